/- Parts of the proof. -/
import Derived.Laws.Rows
import Derived.Laws.Tables
import Derived.Test.YtpkocnpamcchcaaGreatDoorK07
set_option maxRecDepth 100000
set_option maxHeartbeats 4000000
set_option linter.unusedSimpArgs false
set_option linter.unusedVariables false
set_option linter.unnecessarySimpa false
namespace Go.Proofs.YtpkocnpamcchcaaGreatDoor
open Go.RowKit Go.Zone Go.Shelf
attribute [local go_sem] zone stepZ fill lookFs goes goesUpon dropFs cell_gro frozen_gro size_gro lt_add drew_gro tape_gro keep_refl
attribute [local go_sem] lt_add2 lt_add3 lt_add4 lt_add5 lt_add6 lt_add7 lt_add8 lt_add9 lt_add10 lt_add11 lt_add12
theorem hold_none{P:Program}{ops:Array Oper}{Q:Exit→Act→World→Prop}{rest:List Oper}{a:Act}{w:World}{t:TypeId}{x y:Operand}{ty:TypeId}{pos:String}{af:Array Edge}{gd:Option (Nat × Bool)}(h:Hid (wpList P ops Q (⟨none,.store t x y,ty,pos,af,gd⟩ :: rest) a w)):wpList P ops Q (⟨none,.store t x y,ty,pos,af,gd⟩ :: rest) a w:=h
def stepC(x:Nat):Nat:=if x%2=1 then x/2 ^^^ 3988292384 else x/2
def stepsC:Nat→Nat→Nat
 | 0,x=>x
 | k+1,x=>stepC (stepsC k x)
def tabC(i:Nat):Nat:=stepsC 8 i
def tabRow(k:Nat):List Value:=(List.range 256).map fun i=>.int .u32 ((if i<k then tabC i else 0:Nat):Int)
theorem tabRow_len(k:Nat):(tabRow k).length=256:=by simp [tabRow]
theorem tabRow_get(k i:Nat)(h:i<256):(tabRow k)[i]? =some (.int .u32 ((if i<k then tabC i else 0:Nat):Int)):=by simp [tabRow,h]
theorem tabRow_set(k:Nat)(h:k<256):(tabRow k).set k (.int .u32 (tabC k:Int))=tabRow (k+1):=by
 apply List.ext_getElem?;intro i;rw [List.getElem?_set]
 by_cases hi:i<256
 ·rw [tabRow_get _ _ hi,tabRow_get _ _ hi,tabRow_len]
  by_cases e:k=i
  ·subst e;simp [h]
  ·have:(i<k+1)=(i<k):=by simp;omega
   simp [e,this]
 ·have h1:(tabRow k)[i]? =none:=by rw [List.getElem?_eq_none_iff,tabRow_len];omega
  have h2:(tabRow (k+1))[i]? =none:=by rw [List.getElem?_eq_none_iff,tabRow_len];omega
  rw [h1,h2]
  split<;>simp_all
theorem zero_tab:Tryz.zeroCells251=(tabRow 0).toArray:=by kernel_rfl
theorem stepC_lt{x:Nat}(h:x<4294967296):stepC x<4294967296:=by
 unfold stepC
 split
 ·exact Nat.xor_lt_two_pow (n:=32) (by omega) (by decide)
 ·omega
theorem stepsC_lt{x:Nat}(h:x<4294967296):∀ k,stepsC k x<4294967296
 | 0=>h
 | k+1=>stepC_lt (stepsC_lt h k)
theorem stepC_bits{x:Nat}(h:x<4294967296):bits .xor .u32 ((x:Int)/2) (bits .and .u32 3988292384 (-bits .and .u32 (x:Int) 1%4294967296))=((stepC x:Nat):Int):=by
 have h1:=u32_and_nat x 1 h (by decide);rw [Nat.and_one_is_mod] at h1;rw [show (1:Int)=((1:Nat):Int) from rfl,h1,show ((x:Int)/2)=((x/2:Nat):Int) by omega];unfold stepC
 rcases (show x%2=0∨x%2=1 by omega) with e|e
 ·rw [e];have h2:=u32_and_nat 3988292384 0 (by decide) (by decide);have h3:=u32_xor_nat (x/2) 0 (by omega) (by decide);simp only [Nat.and_zero] at h2;simp only [Nat.xor_zero] at h3;rw [show (-((0:Nat):Int)%4294967296)=((0:Nat):Int) by decide,show (3988292384:Int)=((3988292384:Nat):Int) from rfl,h2,h3,if_neg (by decide)]
 ·rw [e];have h2:=u32_and_nat 3988292384 4294967295 (by decide) (by decide);have h3:=u32_xor_nat (x/2) 3988292384 (by omega) (by decide);rw [show (3988292384 &&& 4294967295:Nat)=3988292384 by decide] at h2;rw [show (-((1:Nat):Int)%4294967296)=((4294967295:Nat):Int) by decide,show (3988292384:Int)=((3988292384:Nat):Int) from rfl,h2,h3,if_pos rfl]
theorem table_any(w:World):Calls Tryz.prog 184 #[] w fun e w'=>e=.returned (.agg (tabRow 256).toArray)∧Keep w w':=by
 go_enter Tryz.func184,Tryz.ntmps184;go_wp2;rw [zero_tab];go_loopw [3] (fun i wr=>∃ k:Nat,k≤256∧i=.int .i64 k∧Hid (wr.heap[w.heap.size]? =some (.cells (tabRow k).toArray 251 (0,0)))∧Hid (Keep w wr)) (fun i _=>256-(intOf i).toNat)
 case atStart=>exact ⟨0,Nat.zero_le _,rfl,heap_alloc_new _ _,(by repeat first|exact kp0|apply kp1|apply kp2|apply kp3|apply kp4)⟩
 case round =>
  obtain ⟨k,hk,rfl,HR,HK⟩:=hrel
  by_cases hlt:k<256
  ·go_wp2;go_loop [2,8] (fun x j=>∃ m:Nat,m≤8∧j=.int .i64 m∧x=.int .u32 (stepsC m k:Nat)) (fun _ j=>8-(intOf j).toNat)
   case atStart=>exact ⟨0,Nat.zero_le _,rfl,rfl⟩
   case round =>
    obtain ⟨m,hm,rfl,rfl⟩:=hrel;have hx:=stepsC_lt (show k<4294967296 by omega) m
    by_cases hm8:m<8
    ·have hs:stepsC (m+1) k=stepC (stepsC m k):=rfl;have HS:=lh hs;clear hs;generalize stepsC m k=x at hx HS ⊢;go_wp2;go_round
     case rel=>exact ⟨m+1,by omega,by go_num,by rw [stepC_bits hx,HS.out]⟩
     case measure=>simp [intOf];omega
    ·have hm':m=8:=by omega
     subst hm';have hc:=cell_of_row _ _ k _ _ _ HR.out;have hf:=frozen_of_row _ _ k _ _ HR.out;rw [List.getElem?_toArray,tabRow_get _ _ hlt] at hc;have hbl:=block_lt_of_cell hc;generalize hX:stepsC 8 k=x at hx ⊢;have HX:=lh hX;clear hX;go_wp2;go_roundw
     case rel=>exact ⟨k+1,by omega,by go_num,(by
      show _=_;rw [heap_setCell_same _ _ _ _ _ _ HR.out,← tabRow_set k hlt];simp [tabC,HX.out]),HK.out.setCell (Nat.le_refl _) _⟩
     case measure=>simp [intOf];omega
  ·have hk':k=256:=by omega
   subst hk';have hbl:=(Array.getElem?_eq_some_iff.1 HR.out).1;go_wp2_with (with_reducible refine Zone.hold_at 22 ?_);refine unhold ?_;refine wpList_load_row rfl 251 _ rfl w.heap.size rfl 251 (tabRow 256).toArray _ _ HR.out Tryz.underlying251 rfl (by rw [List.size_toArray,tabRow_len];kernel_rfl) ?_;refine wpList_store_row rfl 251 _ _ rfl w.heap.size (tabRow 256).toArray rfl rfl 251 (tabRow 256).toArray HR.out (by rw [List.size_toArray,tabRow_len];kernel_rfl) rfl (by simp [tabRow,Value.oneCell']) ?_;rw [setRow_self _ _ _ _ _ HR.out];go_wp2;exact bodyPost_ret (v:=.agg (tabRow 256).toArray) (results_cell_row rfl _ _ w.heap.size 251 (tabRow 256).toArray (0,0) _ rfl HR.out Tryz.underlying251 rfl (by rw [List.size_toArray,tabRow_len];kernel_rfl)) rfl ⟨rfl,HK.out⟩
theorem not32{x:Nat}(h:x<4294967296):bits .xor .u32 IntKind.u32.max (x:Int)=((4294967295-x:Nat):Int):=by
 have h1:=u32_xor_nat 4294967295 x (by decide) h;rw [show IntKind.u32.max=((4294967295:Nat):Int) by decide,h1]
 congr 1
 apply Nat.eq_of_testBit_eq;intro i;have h2:=Nat.testBit_two_pow_sub_succ (n:=32) h i;rw [show 2^32-(x+1)=4294967295-x by omega] at h2;rw [h2,Nat.testBit_xor,show (4294967295:Nat)=2^32-1 by decide,Nat.testBit_two_pow_sub_one]
 by_cases hi:i<32
 ·simp [hi]
 ·have:x.testBit i=false:=Nat.testBit_lt_two_pow (Nat.lt_of_lt_of_le (show x<2^32 from h) (Nat.pow_le_pow_right (by decide) (show 32≤i by omega)));simp [hi,this]
def byteC(x:Nat)(b:UInt8):Nat:=x/256 ^^^ tabC (x%256 ^^^ b.toNat)
def sumC(x:Nat)(bs:List UInt8):Nat:=bs.foldl byteC x
theorem xor8{a b:Nat}(ha:a<256)(hb:b<256):a ^^^ b<256:=Nat.xor_lt_two_pow (n:=8) ha hb
theorem byteC_lt{x:Nat}(h:x<4294967296)(b:UInt8):byteC x b<4294967296:=by
 unfold byteC;have:=b.toNat_lt;exact Nat.xor_lt_two_pow (n:=32) (by omega) (stepsC_lt (by have:=xor8 (show x%256<256 by omega) this;omega) 8)
theorem sumC_lt:∀ (bs:List UInt8) {x:Nat},x<4294967296→sumC x bs<4294967296
 | [],_,h=>h
 | b :: r,_,h=>sumC_lt r (byteC_lt h b)
theorem sumC_succ(x:Nat)(bs:List UInt8)(k:Nat)(h:k<bs.length):sumC x (bs.take (k+1))=byteC (sumC x (bs.take k)) bs[k]:=by
 unfold sumC;rw [List.take_succ_eq_append_getElem h,List.foldl_append];rfl
theorem sl_b8{w:World}{c:Nat}{A:Option Addr}{xs:List UInt8}(h:SlB w A c xs)(i:Nat)(hi:i<xs.length):∃ b off,A=some ⟨b,off,none⟩∧b<w.heap.size∧w.cell? ⟨b,off+i,none⟩=some (.int .u8 (xs[i].toNat:Int)):=by
 obtain ⟨b,off,hA,hc⟩:=h.at_ i hi;have h0:=hc 0 _ rfl;exact ⟨b,off,hA,World.block_lt_of_cell? w _ h0,by simpa using h0⟩
theorem csum_any(A:Option Addr)(c:Nat)(bs:List UInt8)(w:World)(h:SlB w A c bs):Calls Tryz.prog 145 #[.slice A bs.length c] w fun e w'=>e=.returned (.int .u32 ((4294967295-sumC 4294967295 bs:Nat):Int))∧Keep w w':=by
 have H:=lh h;have hl:=h.len;clear h;go_enter Tryz.func145,Tryz.ntmps145;go_wp2_with (first|(go_at_call 184;refine (table_any _).mono ?_;rintro e w' ⟨rfl,hk⟩;(first|obtain ⟨p,rfl⟩:=Zone.gro_of_gro _ _ hk|obtain ⟨p,rfl⟩:=Zone.gro_of_below _ hk);clear hk)|(with_reducible refine hold_none ?_));refine unhold ?_;refine wpList_store_row rfl 251 _ _ rfl _ (tabRow 256).toArray rfl rfl 251 Tryz.zeroCells251 (by rw [← size_gro];exact heap_alloc_new _ _) (by rw [List.size_toArray,tabRow_len];kernel_rfl) (by rw [zero_tab];simp [tabRow_len]) (by simp [tabRow,Value.oneCell']) ?_;rw [← size_gro w p];have hg:=setRow_heap _ _ _ (tabRow 256).toArray _ _ (heap_alloc_new (w.gro p) (.cells Tryz.zeroCells251 251));have hk:Keep w (((w.gro p).alloc (.cells Tryz.zeroCells251 251)).setRow (w.gro p).heap.size (tabRow 256).toArray):=by
  refine Keep.trans (Keep.gro (Keep.refl w) p) ⟨rfl,rfl,rfl,by simp,fun i hi=>?_⟩;rw [setRow_other _ _ _ _ (by omega)];exact heap_alloc_old _ _ hi
 generalize World.setRow _ _ (tabRow 256).toArray=w1 at hg hk ⊢;generalize (w.gro p).heap.size=g at hg ⊢;have HG:=lh hg;have HK:=lh hk;have hgl:=(Array.getElem?_eq_some_iff.1 hg).1;clear hg hk p;go_wp2;go_loop [4,6,10] (fun x _ j=>∃ k:Nat,k≤bs.length∧j=.int .i64 k∧x=.int .u32 (sumC 4294967295 (bs.take k):Nat)) (fun _ _ j=>bs.length-(intOf j).toNat)
 case atStart=>exact ⟨0,Nat.zero_le _,rfl,rfl⟩
 case round =>
  obtain ⟨k,hk,rfl,rfl⟩:=hrel
  by_cases hlt:k<bs.length
  ·obtain ⟨b,off,rfl,hb,h0⟩:=sl_b8 (H.out.keep HK.out) k hlt;have HS:=lh (sumC_succ 4294967295 bs k hlt);have hx:=sumC_lt (bs.take k) (show 4294967295<4294967296 by decide);have hbl:=bs[k].toNat_lt;have hj:=u8_xor_nat (sumC 4294967295 (bs.take k)%256) bs[k].toNat (by omega) hbl;have HJ:=lh (cell_of_row _ _ (sumC 4294967295 (bs.take k)%256 ^^^ bs[k].toNat) _ _ _ HG.out);have hj8:=xor8 (show sumC 4294967295 (bs.take k)%256<256 by omega) hbl;have HB:=lh (show byteC (sumC 4294967295 (bs.take k)) bs[k]=sumC 4294967295 (bs.take k)/256 ^^^ tabC (sumC 4294967295 (bs.take k)%256 ^^^ bs[k].toNat) from rfl);rw [List.getElem?_toArray,tabRow_get _ _ hj8,if_pos hj8] at HJ;have htl:=stepsC_lt (show sumC 4294967295 (bs.take k)%256 ^^^ bs[k].toNat<4294967296 by omega) 8;generalize sumC 4294967295 (bs.take k)=x at hx hj HJ hj8 HS HB htl ⊢;rw [show (((x%256:Nat)):Int)=(x:Int)%256 by omega] at hj;generalize (x%256 ^^^ bs[k].toNat)=j at hj HJ hj8 HB htl;have hc:=HJ.out;have hxx:=u32_xor_nat (x/256) (tabC j) (by omega) htl;rw [show (((x/256:Nat)):Int)=(x:Int)/256 by omega] at hxx;clear htl;go_wp2;go_round
   case rel=>exact ⟨k+1,by omega,by go_num,by rw [HS.out,HB.out]⟩
   case measure=>simp [intOf];omega
  ·have hk':k=bs.length:=by omega
   subst hk';rw [List.take_length];have hx:=sumC_lt bs (show 4294967295<4294967296 by decide);have hn:=not32 hx;obtain ⟨x,hxe⟩:∃ x,x=sumC 4294967295 bs:=⟨_,rfl⟩;rw [← hxe] at hx hn ⊢;have HE:=lh hxe;clear hxe;go_wp2;go_ret;exact ⟨by rw [← HE.out];rfl,HK.out⟩
theorem half_xor(a b:Nat):(a ^^^ b)/2=a/2 ^^^ b/2:=by
 have:=Nat.shiftRight_xor_distrib (a:=a) (b:=b) (i:=1)
 simpa [Nat.shiftRight_eq_div_pow] using this
theorem stepC_xor(a b:Nat):stepC (a ^^^ b)=stepC a ^^^ stepC b:=by
 unfold stepC;have hp:((a ^^^ b)%2=1)↔¬ (a%2=1↔b%2=1):=by
  have h:=Nat.testBit_xor (x:=a) (y:=b) (i:=0);simp only [Nat.testBit_zero] at h
  rcases (show a%2=0∨a%2=1 by omega) with ha|ha<;>rcases (show b%2=0∨b%2=1 by omega) with hb|hb<;>simp_all
 rw [half_xor]
 rcases (show a%2=0∨a%2=1 by omega) with ha|ha<;>rcases (show b%2=0∨b%2=1 by omega) with hb|hb
 ·rw [if_neg (by omega),if_neg (by omega),if_neg (by omega)]
 ·rw [if_pos (by omega),if_neg (by omega),if_pos (by omega),Nat.xor_assoc]
 ·rw [if_pos (by omega),if_pos (by omega),if_neg (by omega),Nat.xor_assoc,Nat.xor_assoc,Nat.xor_comm (b/2)]
 ·rw [if_neg (by omega),if_pos (by omega),if_pos (by omega),Nat.xor_assoc,Nat.xor_comm 3988292384 (b/2 ^^^ 3988292384),Nat.xor_assoc,Nat.xor_self,Nat.xor_zero]
theorem stepsC_xor(a b:Nat):∀ k,stepsC k (a ^^^ b)=stepsC k a ^^^ stepsC k b
 | 0=>rfl
 | k+1=>by simp only [stepsC];rw [stepsC_xor a b k,stepC_xor]
theorem stepsC_shift(z:Nat):∀ k,stepsC k (z*2^k)=z
 | 0=>by simp [stepsC]
 | k+1=>by
   have h:∀ k x,stepsC (k+1) x=stepsC k (stepC x):=fun k=>by
    induction k with
    | zero=>intro x;rfl
    | succ k ih=>intro x;show stepC (stepsC (k+1) x)=stepC (stepsC k (stepC x));rw [ih]
   rw [h];have h2:stepC (z*2^(k+1))=z*2^k:=by
    unfold stepC;rw [Nat.pow_succ,← Nat.mul_assoc,if_neg (by omega),Nat.mul_div_cancel _ (by decide)]
   rw [h2,stepsC_shift z k]
theorem low_xor(x:Nat):x=(x/256*2^8) ^^^ (x%256):=by
 apply Nat.eq_of_testBit_eq;intro i;rw [Nat.testBit_xor,Nat.testBit_mul_two_pow,show 256=2^8 by decide,Nat.testBit_mod_two_pow,Nat.testBit_div_two_pow]
 by_cases h:i<8
 ·simp [h,show ¬ 8≤i by omega]
 ·simp [h,show 8≤i by omega,show i-8+8=i by omega]
theorem byteC_steps(x:Nat)(b:UInt8):byteC x b=stepsC 8 (x ^^^ b.toNat):=by
 have h:=stepsC_xor (x/256*2^8) (x%256 ^^^ b.toNat) 8;rw [stepsC_shift,← Nat.xor_assoc,← low_xor] at h;exact h.symm
theorem lit_any(n sz:Nat)(hn:n<18446744073709551616)(hsz:sz≤8)(w:World) :
 Calls Tryz.prog 15 #[.int .u64 n,.int .i64 sz] w fun e w'=>∃ v,e=.returned v∧OwnB w' w.heap.size v (le n sz)∧Keep w w':=by
 go_enter Tryz.func15,Tryz.ntmps15;go_wp2;go_loopw [6,0,5] (fun vi vn vb wr=>∃ (k m:Nat) (o:Value),k≤sz∧m<18446744073709551616∧vi=.int .i64 k∧o=vb∧Hid (OwnB wr w.heap.size o (le n k))∧vn=.int .u64 m∧Hid (m=n/256^k)∧Hid (Keep w wr)∧w.heap.size≤wr.heap.size) (fun vi _ _ _=>sz-(intOf vi).toNat)
 case atStart=>exact ⟨0,n,_,by omega,hn,rfl,rfl,Own.nil_ _ _ _ _ _,rfl,(by show _=_;simp),(by repeat first|exact kp0|apply kp1|apply kp2|apply kp3|apply kp4),Nat.le_refl _⟩
 case round =>
  obtain ⟨k,m,o,hk,hm,rfl,rfl,HO2,rfl,HM,HK2,hz⟩:=hrel
  by_cases hlt:k<sz
  ·have hw8:IntKind.u8.wrap ((m:Int)%256)=(m:Int)%256:=by simp [IntKind.wrap,IntKind.signed,IntKind.bits]
   go_wp2_with (at_builtin;refine hold ?_);refine unhold ?_;have HO3:OwnB (wr.alloc (.cells #[.int .u8 ((m:Int)%256)] 5)) w.heap.size o (le n k):=HO2.out.keep (Keep.alloc (Keep.refl _) _);refine wpList_app elt_u8 b8_len b8_one rfl (.tmp 12) (.tmp 16) rfl (ys:=[UInt8.ofNat m]) HO3 rfl rfl (sl_one _ (by omega) (by omega) (b8_at _ (by rw [u8_nat];simp [go_sem]))) (by simp [le_len];omega) (by simp;omega) ?_;intro v1 w2 hown2 hg2 _;have ⟨a1,a2,a3⟩:=HO3.after hg2 (HK2.out.trans (by repeat first|exact kp0|apply kp1|apply kp2|apply kp3|apply kp4)) (Nat.le_refl _);have HO4:=lh hown2;have HA1:=lh a1;clear hown2 hg2 HO3 a3 hw8;have hm2:m/256<18446744073709551616:=by omega
   go_wp2;go_roundw
   case rel=>exact ⟨k+1,m/256,_,by omega,hm2,by go_num,rfl,(by show OwnB _ _ _ _;have:=HO4.out;rw [HM.out] at this;exact this),by go_num,(by show _=_;rw [HM.out,Nat.div_div_eq_div_mul,Nat.pow_succ]),HA1.out,by simp at a2;omega⟩
   case measure=>simp [intOf];omega
  ·have hks:k=sz:=by omega
   subst hks;go_wp2;go_ret;exact ⟨_,rfl,HO2.out,HK2.out⟩
theorem app16_any(A:Option Addr)(c:Nat)(xs:List UInt8)(n:Nat)(hn:n<65536)(w:World)(h:SlB w A c xs)(hl:xs.length≤140000000000000) :
 Calls Tryz.prog 64 #[.slice A xs.length c,.int .u16 n] w fun e w'=>∃ v,e=.returned v∧OwnB w' w.heap.size v (xs++le n 2)∧Keep w w':=by
 have HF:=lh (fixed_any A c xs n 2 (by omega) (by omega) w h hl);clear h;go_enter Tryz.func64,Tryz.ntmps64;go_wp2_with (go_at_call 65;refine hold ?_);refine unhold ?_;refine HF.out.mono ?_;rintro e w1 ⟨v,rfl,hown,hk⟩;go_wp2;go_ret;exact ⟨v,rfl,hown,hk⟩
theorem ownB_sl{w:World}{base:Nat}{v:Value}{xs:List UInt8}(h:OwnB w base v xs)(hl:xs.length≤140737488355328):∃ A c,v=.slice A xs.length c∧SlB w A c xs:=Own.sl h b8_len hl
theorem ownB_open{w:World}{base:Nat}{v:Value}{xs:List UInt8}(h:OwnB w base v xs)(hl:xs.length≤140737488355328):∃ L A c,v=.slice A L.length c∧Hid (SlB w A c L)∧Hid (OwnB w base (.slice A L.length c) L)∧Hid (L=xs):=by
 obtain ⟨A,c,rfl,hs⟩:=ownB_sl h hl;exact ⟨xs,A,c,rfl,hs,h,rfl⟩
def crcB(bs:List UInt8):Nat:=4294967295-sumC 4294967295 bs
def frameB(bs:List UInt8):List UInt8:=le bs.length 4++bs++le (crcB bs) 4
theorem frameB_len(bs:List UInt8):(frameB bs).length=bs.length+8:=by simp [frameB,le_len];omega
theorem frame_any(A:Option Addr)(c:Nat)(bs:List UInt8)(w:World)(h:SlB w A c bs)(hl:bs.length≤1073741824) :
 Calls Tryz.prog 89 #[.slice A bs.length c] w fun e w'=>∃ v,e=.returned v∧OwnB w' w.heap.size v (frameB bs)∧Keep w w':=by
 have H:=lh h;clear h;go_enter Tryz.func89,Tryz.ntmps89;go_wp2_with (go_at_call 31;refine hold ?_);refine unhold ?_;refine (app32_any none 0 [] bs.length (by omega) _ (Sl.nil_ _ (by decide)) (by simp)).mono ?_;rintro e w1 ⟨v1,rfl,hown1,hk1⟩;have HO1:=lh hown1;have HK1:=lh hk1;clear hown1 hk1;go_wp2_with (at_builtin;refine hold ?_);refine unhold ?_;refine wpList_app elt_u8 b8_len b8_one rfl (.tmp 9) (.tmp 10) rfl (ys:=bs) HO1.out rfl rfl (H.out.keep HK1.out) (by simp [le_len];omega) HK1.out.size ?_;intro v2 w2 hown2 hg2 _;have ⟨a1,a2,_⟩:=HO1.out.after (w:=w) hg2 HK1.out (Nat.le_refl _);have HO2:=lh hown2;have HA1:=lh a1;clear hown2 hg2 a1 a2 HO1;go_wp2_with (go_at_call 145;refine hold ?_);refine unhold ?_;refine (csum_any A c bs _ (H.out.keep HA1.out)).mono ?_;rintro e w3 ⟨rfl,hk3⟩;have HO3:=lh (HO2.out.keep hk3);have HK3:=lh (HA1.out.trans hk3);clear hk3 HO2 HA1;obtain ⟨L,A3,c3,rfl,HS3,HO4,HL⟩:=ownB_open HO3.out (by simp [le_len];omega);have hlt:4294967295-sumC 4294967295 bs<4294967296:=by omega
 have hll:L.length≤1073741828:=by rw [HL.out];simp [le_len];omega
 clear HO3;go_wp2_with (go_at_call 31;refine hold ?_);refine unhold ?_;refine (app32_any A3 c3 L (crcB bs) hlt _ HS3.out (by omega)).mono ?_;rintro e w4 ⟨v4,rfl,hown4,hk4⟩;have HO5:=lh hown4;have HK5:=lh (HK3.out.trans hk4);have HZ:=lh HK3.out.size;clear hown4 hk4;go_wp2;go_ret;exact ⟨_,rfl,(by have:=HO5.out.base_mono HZ.out;rw [HL.out] at this;exact this),HK5.out⟩
theorem rsum_any(A:Option Addr)(c:Nat)(bs:List UInt8)(w:World)(h:SlB w A c bs):Calls Tryz.prog 147 #[.slice A bs.length c] w fun e w'=>e=.returned (.int .u32 (crcB bs:Int))∧Keep w w':=by
 have H:=lh h;have hl:=h.len;clear h;go_enter Tryz.func147,Tryz.ntmps147;go_wp2;go_loop [3,4,5] (fun x j _=>∃ k:Nat,k≤bs.length∧j=.int .i64 k∧x=.int .u32 (sumC 4294967295 (bs.take k):Nat)) (fun _ j _=>bs.length-(intOf j).toNat)
 case atStart=>exact ⟨0,Nat.zero_le _,rfl,rfl⟩
 case round =>
  obtain ⟨k,hk,rfl,rfl⟩:=hrel
  by_cases hlt:k<bs.length
  ·obtain ⟨b,off,rfl,hb,h0⟩:=sl_b8 H.out k hlt;have hx:=sumC_lt (bs.take k) (show 4294967295<4294967296 by decide);have hbl:bs[k].toNat<256:=bs[k].toNat_lt;have HS:=lh ((sumC_succ 4294967295 bs k hlt).trans (byteC_steps _ _));have hxx:=u32_xor_nat (sumC 4294967295 (bs.take k)) bs[k].toNat hx (by omega);have hxl:sumC 4294967295 (bs.take k) ^^^ bs[k].toNat<4294967296:=Nat.xor_lt_two_pow (n:=32) hx (show bs[k].toNat<2^32 by omega);generalize sumC 4294967295 (bs.take k)=x at hx HS hxx hxl ⊢;generalize x ^^^ bs[k].toNat=y at HS hxx hxl;go_wp2;go_loop [3,5] (fun x j=>∃ m:Nat,m≤8∧j=.int .i64 m∧x=.int .u32 (stepsC m y:Nat)) (fun _ j=>8-(intOf j).toNat)
   case atStart=>exact ⟨0,Nat.zero_le _,rfl,rfl⟩
   case round =>
    obtain ⟨m,hm,rfl,rfl⟩:=hrel;have hz:=stepsC_lt hxl m
    by_cases hm8:m<8
    ·have HS2:=lh (show stepsC (m+1) y=stepC (stepsC m y) from rfl);generalize stepsC m y=z at hz HS2 ⊢;have h2:=u32_xor_nat (z/2) 3988292384 (by omega) (by decide);rw [show ((z/2:Nat):Int)=(z:Int)/2 by omega,show ((3988292384:Nat):Int)=3988292384 from rfl] at h2
     cases e:((z:Int)%2==1)
     ·have E:=lh e;go_wp2;go_round
      case rel=>exact ⟨m+1,by omega,by go_num,by
       rw [HS2.out];have:=E.out;simp only [beq_eq_false_iff_ne,ne_eq] at this;unfold stepC;rw [if_neg (by omega)];exact congrArg (Value.int .u32) (by omega)⟩
      case measure=>simp [intOf];omega
     ·have E:=lh e;go_wp2;go_round
      case rel=>exact ⟨m+1,by omega,by go_num,by
       rw [HS2.out];have:=E.out;simp only [beq_iff_eq] at this;unfold stepC;rw [if_pos (by omega)]⟩
      case measure=>simp [intOf];omega
    ·have hm':m=8:=by omega
     subst hm';rw [← HS.out];go_wp2;go_round
     case rel=>exact ⟨k+1,by omega,by go_num,rfl⟩
     case measure=>simp [intOf];omega
  ·have hk':k=bs.length:=by omega
   subst hk';rw [List.take_length];have hx:=sumC_lt bs (show 4294967295<4294967296 by decide);obtain ⟨x,hxe⟩:∃ x,x=sumC 4294967295 bs:=⟨_,rfl⟩;rw [← hxe] at hx ⊢;have HE:=lh hxe;clear hxe;go_wp2;go_ret;exact ⟨by
    unfold crcB;rw [← HE.out];exact ret_int (by omega),(by repeat first|exact kp0|apply kp1|apply kp2|apply kp3|apply kp4)⟩
theorem rframe_any(A:Option Addr)(c:Nat)(bs:List UInt8)(w:World)(h:SlB w A c bs)(hl:bs.length≤1073741824) :
 Calls Tryz.prog 93 #[.slice A bs.length c] w fun e w'=>∃ v,e=.returned v∧OwnB w' w.heap.size v (frameB bs)∧Keep w w':=by
 have H:=lh h;clear h;go_enter Tryz.func93,Tryz.ntmps93;go_wp2_with (go_at_call 15;refine hold ?_);refine unhold ?_;refine (lit_any bs.length 4 (by omega) (by decide) _).mono ?_;rintro e w1 ⟨v1,rfl,hown1,hk1⟩;have HO1:=lh hown1;have HK1:=lh hk1;clear hown1 hk1;go_wp2_with (at_builtin;refine hold ?_);refine unhold ?_;refine wpList_app elt_u8 b8_len b8_one rfl (.tmp 7) (.tmp 8) rfl (ys:=bs) HO1.out rfl rfl (H.out.keep HK1.out) (by simp [le_len];omega) HK1.out.size ?_;intro v2 w2 hown2 hg2 _;have ⟨a1,a2,_⟩:=HO1.out.after (w:=w) hg2 HK1.out (Nat.le_refl _);have HO2:=lh hown2;have HA1:=lh a1;clear hown2 hg2 a1 a2 HO1;go_wp2_with (go_at_call 147;refine hold ?_);refine unhold ?_;refine (rsum_any A c bs _ (H.out.keep HA1.out)).mono ?_;rintro e w3 ⟨rfl,hk3⟩;have HO3:=lh (HO2.out.keep hk3);have HK3:=lh (HA1.out.trans hk3);clear hk3 HO2 HA1;have hlt:crcB bs<4294967296:=by unfold crcB;omega
 go_wp2_with (go_at_call 15;refine hold ?_);refine unhold ?_;refine (lit_any (crcB bs) 4 (by omega) (by decide) _).mono ?_;rintro e w4 ⟨v4,rfl,hown4,hk4⟩;obtain ⟨L,A4,c4,rfl,HS4,_,HL⟩:=ownB_open hown4 (by simp [le_len]);have HO4:=lh (HO3.out.keep hk4);have HK4:=lh (HK3.out.trans hk4);have HL4:=lh (show L.length=4 by rw [HL.out,le_len]);clear hown4 hk4 HO3 HK3;go_wp2_with (at_builtin;refine hold ?_);refine unhold ?_;refine wpList_app elt_u8 b8_len b8_one rfl (.tmp 10) (.tmp 14) rfl (ys:=L) HO4.out rfl rfl HS4.out (by have:=HL4.out;simp [le_len];omega) HK4.out.size ?_;intro v5 w5 hown5 hg5 _;have ⟨b1,b2,_⟩:=HO4.out.after (w:=w) hg5 HK4.out (Nat.le_refl _);have HO5:=lh hown5;have HA5:=lh b1;clear hown5 hg5 b1 b2 HO4;go_wp2;go_ret;exact ⟨_,rfl,(by have:=HO5.out;rw [HL.out] at this;exact this),HA5.out⟩
def okS(b:Nat):Bool:=!((decide (b<97)||decide (122<b))&&(decide (b<48)||decide (57<b)) && !(decide (b=46)))
structure NameS(s:ByteArray):Prop where
 ok:∀ i,(h:i<s.size)→okS (s[i]'h).toNat=true
 lo:1≤s.size
 hi:s.size≤20
structure Sec where
 name:ByteArray
 A:Option Addr
 c:Nat
 bs:List UInt8
def Sec.cells(s:Sec):List Value:=[.string s.name,.slice s.A s.bs.length s.c]
@[reducible] def Sec.v(s:Sec):Value:=.agg #[.string s.name,.slice s.A s.bs.length s.c]
def isSec(n:ByteArray)(s:Sec):Bool:=s.name.toList==n.toList
def SecsAt(w:World)(l:List Sec):Prop:=∀ s∈l,SlB w s.A s.c s.bs
theorem SecsAt.keep{w w':World}{l:List Sec}(h:SecsAt w l)(hk:Keep w w'):SecsAt w' l:=fun s hs=>(h s hs).keep hk
structure SecsP(l:List Sec):Prop where
 name:∀ i,(h:i<l.length)→NameS l[i].name
 small:∀ i,(h:i<l.length)→l[i].bs.length≤1073741824
 one:∀ i k,(h:i<l.length)→(hk:k<i)→(l[k]'(by omega)).name.toList≠l[i].name.toList
 few:l.length≤2000
theorem sl_sec{w:World}{c:Nat}{A:Option Addr}{xs:List Sec}(h:Sl w 2 Sec.cells A c xs)(i:Nat)(hi:i<xs.length):∃ b off,A=some ⟨b,off,none⟩∧b<w.heap.size∧w.cell? ⟨b,off+i*2,none⟩=some (.string xs[i].name) ∧
 w.cell? ⟨b,off+i*2+1,none⟩=some (.slice xs[i].A xs[i].bs.length xs[i].c):=by
 obtain ⟨b,off,hA,hc⟩:=h.at_ i hi;have h0:=hc 0 _ rfl;exact ⟨b,off,hA,World.block_lt_of_cell? w _ h0,h0,hc 1 _ rfl⟩
theorem sfind_first(l:List Sec)(i:Nat)(h:i<l.length):idxP (isSec l[i].name) l 0=(i:Int)↔∀ k,(hk:k<i)→(l[k]'(by omega)).name.toList≠l[i].name.toList:=by
 constructor
 ·intro he k hk heq;have:=idxP_le (isSec l[i].name) l 0 k (by omega) (by simp [isSec,heq]);omega
 ·intro hall;have:=idxP_first (isSec l[i].name) l 0 i h (by simp [isSec]) fun j hj=>by simpa [isSec] using hall j hj
  simpa using this
theorem okS_no{n:Nat}(h:128≤n):okS n=false:=by unfold okS;simp;omega
theorem okNS(s:ByteArray)(pos:Nat)(h:pos<s.size):okS (Utf8.decode s pos).1=okS (s[pos]'h).toNat∧(okS (Utf8.decode s pos).1=true→(Utf8.decode s pos).2=1)∧1≤(Utf8.decode s pos).2:=by
 by_cases ha:(s[pos]'h).toNat<128
 ·rw [decode_ascii s pos h ha];exact ⟨rfl,fun _=>rfl,Nat.le_refl _⟩
 ·have hd:=decode_high s pos h (by omega);have h1:=okS_no hd.1;refine ⟨by rw [h1,okS_no (by omega)],fun h=>?_,hd.2⟩;rw [h1] at h
  cases h
theorem badNS{s:ByteArray}{pos r k:Nat}(_:∀ i,(h:i<s.size)→i<pos→okS (s[i]'h).toNat=true)(h:pos<s.size)(hr:okS r=okS (s[pos]'h).toNat∧(okS r=true→k=1)∧1≤k)(hb:okS r=false):¬ NameS s:=fun hn=>by
 have:=hn.ok pos h;rw [← hr.1,hb] at this
 cases this
theorem okS_spec(r:Nat):okS r=true↔(97≤r∧r≤122)∨(48≤r∧r≤57)∨r=46:=by
 unfold okS;simp;omega
theorem goodNS{s:ByteArray}{pos r k:Nat}(H:∀ i,(h:i<s.size)→i<pos→okS (s[i]'h).toNat=true)(h:pos<s.size)(hr:okS r=okS (s[pos]'h).toNat∧(okS r=true→k=1)∧1≤k)(hb:okS r=true):∀ i,(h:i<s.size)→i<pos+k→okS (s[i]'h).toNat=true:=fun i hi hk=>by
 rw [hr.2.1 hb] at hk
 by_cases e:i=pos
 ·subst e;rw [← hr.1,hb]
 ·exact H i hi (by omega)
theorem secName_any(s:ByteArray)(w:World)(hz:s.size≤140737488355328):Calls Tryz.prog 143 #[.string s] w fun e w'=>e=.returned (.bool (pB (NameS s)))∧Keep w w':=by
 go_enter Tryz.func143,Tryz.ntmps143;go_wp2;go_loopw [4] (fun _ wr=>∃ pos:Nat,wr=w.iter s pos∧Hid (∀ i,(h:i<s.size)→i<pos→okS (s[i]'h).toNat=true)) (fun _ wr=>s.size-wr.iterPos w.heap.size)
 case atStart=>exact ⟨0,rfl,fun i h hi=>absurd hi (Nat.not_lt_zero _)⟩
 case round =>
  obtain ⟨pos,rfl,HP⟩:=hrel
  by_cases hp:pos<s.size
  ·have hnx:=fun ty=>run_next_any (P:=Tryz.prog) w s pos ty hp;have HR:=lh (okNS s pos hp);generalize Utf8.decode s pos=d at hnx HR ⊢;obtain ⟨r,k⟩:=d;simp only at hnx HR;go_wp2
   all_goals first
   | (have hb:okS r=false:=by
       rw [Bool.eq_false_iff,ne_eq,okS_spec]
       try simp only [bne_iff_ne,ne_eq] at *
       omega
      go_ret;exact ⟨ret_bool (pB_no (badNS HP.out hp HR.out hb)).symm,(by repeat first|exact kp0|apply kp1|apply kp2|apply kp3|apply kp4)⟩)
   | (have hb:okS r=true:=by
       rw [okS_spec]
       try simp only [bne_eq_false_iff_eq] at *
       omega
      go_roundw
      case rel=>exact ⟨pos+k,rfl,goodNS HP.out hp HR.out hb⟩
      case measure =>
        have:=HR.out.2.2;simp;omega)
  ·have hnx:=fun ty=>run_next_end (P:=Tryz.prog) w s pos ty hp;go_wp2
   ·go_ret;exact ⟨by
     by_cases h64:(s.size:Int)≤20
     ·rw [pB_yes ⟨fun i h=>HP.out i h (by omega),by omega,by omega⟩];simp [h64]
     ·rw [pB_no fun hn=>h64 (by have:=hn.hi;omega)];simp [h64],(by repeat first|exact kp0|apply kp1|apply kp2|apply kp3|apply kp4)⟩
   ·go_ret;exact ⟨ret_bool (pB_no fun hn=>by have:=hn.lo;omega).symm,(by repeat first|exact kp0|apply kp1|apply kp2|apply kp3|apply kp4)⟩
theorem indexSec_any(A:Option Addr)(c:Nat)(xs:List Sec)(g:Nat)(lb:Array Value)(p:Sec→Bool)(w:World)(eg:∀ args w,(callFunc g args).run Tryz.prog w=.ok (.enter g args) w)
 (h:Sl w 2 Sec.cells A c xs) (hp:PredOk Tryz.prog g lb Sec.v p w) :
 Calls Tryz.prog 182 #[.slice A xs.length c,.func (.func g) #[] lb] w fun e w'=>e=.returned (.int .i64 (idxP p xs 0))∧Keep w w':=by
 have hl:=sl_len h;have HP:=lh hp;clear hp;go_enter Tryz.func182,Tryz.ntmps182;go_wp2;go_loopw [5,8] (fun _ i wr=>∃ k:Nat,k≤xs.length∧i=.int .i64 k∧Hid (Keep w wr)∧Hid (∀ j,(h:j<xs.length)→j<k→p xs[j]=false)) (fun _ i _=>xs.length-(intOf i).toNat)
 case atStart=>exact ⟨0,Nat.zero_le _,rfl,Keep.refl _,fun j _ hj=>absurd hj (Nat.not_lt_zero _)⟩
 case round =>
  obtain ⟨k,hk,rfl,HK,HR⟩:=hrel
  by_cases hlt:k<xs.length
  ·have hcall:=HP.out wr xs[k] HK.out;obtain ⟨b,off,rfl,hb,h0,h1⟩:=sl_sec (h.keep HK.out) k hlt;clear h
   by_cases hq:p xs[k]=true
   ·rw [hq] at hcall;have HC:=lh hcall;have HQ:=lh hq;clear hcall hq;go_wp2_with (go_at_fn g;refine HC.out.mono ?_;rintro e w' ⟨rfl,hk'⟩);go_ret;exact ⟨ret_int (by rw [idxP_at p xs 0 k HR.out,List.drop_eq_getElem_cons hlt];simp [idxP,HQ.out]),HK.out.trans hk'⟩
   ·have hq':p xs[k]=false:=by simpa using hq
    rw [hq'] at hcall;have HC:=lh hcall;have HQ:=lh hq';clear hcall hq hq';go_wp2_with (go_at_fn g;refine HC.out.mono ?_;rintro e w' ⟨rfl,hk'⟩);go_roundw
    case rel=>exact ⟨k+1,by omega,by go_num,HK.out.trans hk',fun j hj hjk=>by
     by_cases e:j=k
     ·subst e;exact HQ.out
     ·exact HR.out j hj (by omega)⟩
    case measure=>simp [intOf];omega
  ·go_wp2;go_ret;exact ⟨ret_int (by rw [idxP_at p xs 0 xs.length fun j hj _=>HR.out j hj (by omega)];simp [idxP]),HK.out⟩
theorem secf1_any(c:Sec)(n:ByteArray)(b:Nat)(w:World)(h:w.cell? ⟨b,0,none⟩=some (.string n))(hb:b<w.heap.size):Calls Tryz.prog 183 #[c.v,.pointer (some ⟨b,0,none⟩)] w fun e w'=>e=.returned (.bool (isSec n c))∧Keep w w':=by
 obtain ⟨n',A',c',b'⟩:=c;simp only [Sec.v];go_enter Tryz.func183,Tryz.ntmps183;go_wp2;go_ret;exact ⟨rfl,(by repeat first|exact kp0|apply kp1|apply kp2|apply kp3|apply kp4)⟩
theorem secf_any(A:Option Addr)(c:Nat)(cs:List Sec)(n:ByteArray)(w:World)(h:Sl w 2 Sec.cells A c cs) :
 Calls Tryz.prog 144 #[.slice A cs.length c,.string n] w fun e w'=>e=.returned (.int .i64 (idxP (isSec n) cs 0))∧Keep w w':=by
 have HS:=lh h;clear h;go_enter Tryz.func144,Tryz.ntmps144;go_wp2_with (go_at_call 182;refine hold ?_);refine unhold ?_;refine (indexSec_any A c cs 183 #[.pointer (some ⟨w.heap.size,0,none⟩)] (isSec n) _ (enters_of Tryz.func183 (by kernel_rfl) rfl) (HS.out.keep (by repeat first|exact kp0|apply kp1|apply kp2|apply kp3|apply kp4)) (fun W x hW=>secf1_any x n _ W ((hW.cell (p:=⟨w.heap.size,0,none⟩) (by simp [go_sem])).trans (by simp [go_sem])) (Nat.lt_of_lt_of_le (by simp [go_sem]) hW.size))).mono ?_;rintro e w' ⟨rfl,hk⟩;obtain ⟨p,rfl⟩:=gro_of_below _ hk;clear HS hk;go_wp2;go_ret;exact ⟨rfl,(by repeat first|exact kp0|apply kp1|apply kp2|apply kp3|apply kp4)⟩
theorem secmay_any(A:Option Addr)(c:Nat)(l:List Sec)(w:World)(h:Sl w 2 Sec.cells A c l)(hp:SecsP l) :
 Calls Tryz.prog 88 #[.slice A l.length c] w fun e w'=>e=.returned (.int .i64 0)∧Keep w w':=by
 have hl:=sl_len h;have H:=lh h;have HP:=lh hp;have hf:=hp.few;clear h hp;go_enter Tryz.func88,Tryz.ntmps88;go_wp2;go_loopw [3,8] (fun e i wr=>∃ k:Nat,k≤l.length∧i=.int .i64 k∧e=.int .i64 0∧Hid (Keep w wr)) (fun _ i _=>l.length-(intOf i).toNat)
 case atStart=>exact ⟨0,Nat.zero_le _,rfl,rfl,Keep.refl _⟩
 case round =>
  obtain ⟨k,hk,rfl,rfl,HK⟩:=hrel
  by_cases hlt:k<l.length
  ·obtain ⟨b,off,hA,hb,h0,h1⟩:=sl_sec (H.out.keep HK.out) k hlt;have hn:=pB_yes (HP.out.name k hlt);have hsm:=HP.out.small k hlt;have HN:=lh (secName_any l[k].name);have HZ:=lh (show l[k].name.size≤140737488355328 by have:=(HP.out.name k hlt).hi;omega);have HF:=lh (secf_any A c l l[k].name);have hfi:=(sfind_first l k hlt).2 fun j hj=>HP.out.one k j hlt hj;subst hA;go_wp2_with (first|(go_at_call 143;refine (HN.out _ HZ.out).mono ?_;rintro e w' ⟨rfl,hk⟩;(first|obtain ⟨p,rfl⟩:=Zone.gro_of_gro _ _ hk|obtain ⟨p,rfl⟩:=Zone.gro_of_below _ hk);clear hk)|(go_at_call 144;refine (HF.out _ (H.out.keep (HK.out.trans (by repeat first|exact kp0|apply kp1|apply kp2|apply kp3|apply kp4)))).mono ?_;rintro e w' ⟨rfl,hk⟩;(first|obtain ⟨p,rfl⟩:=Zone.gro_of_gro _ _ hk|obtain ⟨p,rfl⟩:=Zone.gro_of_below _ hk);clear hk));go_roundw
   case rel=>exact ⟨k+1,by omega,by go_num,rfl,HK.out.trans (by repeat first|exact kp0|apply kp1|apply kp2|apply kp3|apply kp4)⟩
   case measure=>simp [intOf];omega
  ·go_wp2;go_ret;exact ⟨rfl,HK.out⟩
end Go.Proofs.YtpkocnpamcchcaaGreatDoor
