/- Parts of the proof. -/
import Derived.Laws.Bits128
import Derived.Test.YtpkocnpamcchcaaGreatDoorK20
set_option maxRecDepth 100000
set_option maxHeartbeats 4000000
set_option linter.unusedSimpArgs false
set_option linter.unusedVariables false
set_option linter.unnecessarySimpa false
namespace Go.Proofs.YtpkocnpamcchcaaGreatDoor
open Go.RowKit Go.Zone Go.Shelf
attribute [local go_sem] zone stepZ fill lookFs goes goesUpon dropFs cell_gro frozen_gro size_gro lt_add drew_gro tape_gro keep_refl
attribute [local go_sem] lt_add2 lt_add3 lt_add4 lt_add5 lt_add6 lt_add7 lt_add8 lt_add9 lt_add10 lt_add11 lt_add12
theorem u64_rng(n:Int):0≤IntKind.u64.wrap n∧IntKind.u64.wrap n<18446744073709551616:=by
 simp only [IntKind.wrap,IntKind.signed,IntKind.bits];constructor<;>simp<;>omega
def popA(x:Int):Int:=IntKind.u64.wrap (bits .and .u64 (x/2) 6148914691236517205+bits .and .u64 x 6148914691236517205)
def popB(a:Int):Int:=IntKind.u64.wrap (bits .and .u64 (a/4) 3689348814741910323+bits .and .u64 a 3689348814741910323)
def popC(b:Int):Int:=bits .and .u64 (IntKind.u64.wrap (b/16+b)) 1085102592571150095
def popD(c:Int):Int:=IntKind.u64.wrap (c+c/256)
def popE(d:Int):Int:=IntKind.u64.wrap (d+d/65536)
def popF(e:Int):Int:=IntKind.u64.wrap (e+e/4294967296)
def popN(x:Nat):Nat:=(IntKind.i64.wrap (popF (popE (popD (popC (popB (popA (x:Int)))))))%128).toNat
theorem popN_le(x:Nat):popN x≤127:=by unfold popN;omega
theorem popN_zero:popN 0=0:=by decide +kernel
theorem pop_any(x:Nat)(w:World):Calls Tryz.prog 274 #[.int .u64 (x:Int)] w fun e w'=>e=.returned (.int .i64 (popN x:Nat))∧Keep w w':=by
 obtain ⟨a,ha⟩:∃ a,a=popA (x:Int):=⟨_,rfl⟩;obtain ⟨b,hb⟩:∃ b,b=popB a:=⟨_,rfl⟩;obtain ⟨c,hc⟩:∃ c,c=popC b:=⟨_,rfl⟩;obtain ⟨d,hd⟩:∃ d,d=popD c:=⟨_,rfl⟩;obtain ⟨e,he⟩:∃ e,e=popE d:=⟨_,rfl⟩;obtain ⟨f,hf⟩:∃ f,f=popF e:=⟨_,rfl⟩;have HP:=lh (show ((popN x:Nat):Int)=IntKind.i64.wrap f%128 by unfold popN;rw [← ha,← hb,← hc,← hd,← he,← hf];omega);have h1:IntKind.u64.wrap (bits .and .u64 ((x:Int)/2) 6148914691236517205+bits .and .u64 (x:Int) 6148914691236517205)=a:=ha.symm;have h2:IntKind.u64.wrap (bits .and .u64 (a/4) 3689348814741910323+bits .and .u64 a 3689348814741910323)=b:=hb.symm;have h3:bits .and .u64 (IntKind.u64.wrap (b/16+b)) 1085102592571150095=c:=hc.symm;have h4:IntKind.u64.wrap (c+c/256)=d:=hd.symm;have h5:IntKind.u64.wrap (d+d/65536)=e:=he.symm;have h6:IntKind.u64.wrap (e+e/4294967296)=f:=hf.symm;clear ha hb hc hd he hf;go_enter Tryz.func274,Tryz.ntmps274;go_wp2;go_ret;exact ⟨ret_int (by rw [HP.out,i64_and127,IntKind.wrap_i64];unfold wrap64;omega),Keep.refl _⟩
def tabL:List Nat:=[0,1,56,2,57,49,28,3,61,58,42,50,38,29,17,4,62,47,59,36,45,43,51,22,53,39,33,30,24,18,12,5,63,55,48,27,60,41,37,16,46,35,44,21,52,32,23,11,54,26,40,15,34,20,31,10,25,14,19,9,13,8,7,6]
def Tab(w:World):Prop:=∀ j,j<64→w.cell? ⟨2,j,none⟩=some (.int .u8 ((tabL.getD j 0:Nat):Int))
theorem Tab.keep{w w':World}(h:Tab w)(hk:Keep w w'):Tab w':=fun j hj=>(hk.cell (p:=⟨2,j,none⟩) (block_lt_of_cell (h j hj))).trans (h j hj)
theorem Tab.turn{w w':World}{S:List Nat}(h:Tab w)(ht:Turn w w' S)(hs:2∉S):Tab w':=fun j hj=>ht.cell (h j hj) hs
def tzI(x:Nat):Nat:=(IntKind.u64.wrap (bits .and .u64 (x:Int) (IntKind.u64.wrap (-(x:Int)))*285870213051353865)/288230376151711744).toNat
def tzN(x:Nat):Nat:=tabL.getD (tzI x) 0
theorem tzI_lt(x:Nat):tzI x<64:=by
 unfold tzI;have:=u64_rng (bits .and .u64 (x:Int) (IntKind.u64.wrap (-(x:Int)))*285870213051353865);generalize IntKind.u64.wrap (bits .and .u64 (x:Int) (IntKind.u64.wrap (-(x:Int)))*285870213051353865)=z at this ⊢;omega
theorem tab_lt:∀ j,j<64→tabL.getD j 0<64:=by decide +kernel
theorem tzN_lt(x:Nat):tzN x<64:=tab_lt _ (tzI_lt x)
theorem tz_core(x q n:Nat)(w:World)(h0:¬ x=0)(hq:q<64)(hn:n<64)(h1:IntKind.u64.wrap (bits .and .u64 (x:Int) (IntKind.u64.wrap (-(x:Int)))*285870213051353865)/288230376151711744=(q:Int))(c0:w.cell? ⟨2,q,none⟩=some (.int .u8 (n:Int))) :
 Calls Tryz.prog 266 #[.int .u64 (x:Int)] w fun e w'=>e=.returned (.int .i64 (n:Nat))∧Keep w w':=by
 have e0:((x:Int)==0)=false:=by simp;omega
 have e1:¬ (x:Int)=0:=by omega
 have hb:=block_lt_of_cell c0;clear h0;go_enter Tryz.func266,Tryz.ntmps266;go_wp2_with (with_reducible refine Zone.hold_at 11 ?_);refine unhold ?_;obtain ⟨z,hz⟩:∃ z:Int,z=285870213051353865:=⟨_,rfl⟩;go_wp2;go_ret;exact ⟨ret_int (by go_num),Keep.refl _⟩
theorem tz_idx(x:Nat):IntKind.u64.wrap (bits .and .u64 (x:Int) (IntKind.u64.wrap (-(x:Int)))*285870213051353865)/288230376151711744=(tzI x:Int):=by
 have:=u64_rng (bits .and .u64 (x:Int) (IntKind.u64.wrap (-(x:Int)))*285870213051353865);unfold tzI;generalize IntKind.u64.wrap (bits .and .u64 (x:Int) (IntKind.u64.wrap (-(x:Int)))*285870213051353865)=z at this ⊢;omega
theorem tz_any(x:Nat)(h0:¬ x=0)(w:World)(ht:Tab w):Calls Tryz.prog 266 #[.int .u64 (x:Int)] w fun e w'=>e=.returned (.int .i64 (tzN x:Nat))∧Keep w w' :=
 tz_core x (tzI x) (tzN x) w h0 (tzI_lt x) (tzN_lt x) (tz_idx x) (ht (tzI x) (tzI_lt x))
def TB:Roa.Bit:=⟨popN,tzN,popN_le,fun x _=>tzN_lt x⟩
def WN(n x:Nat):List Nat:=x :: List.replicate n 0
theorem WN_len(n x:Nat):(WN n x).length=n+1:=by simp only [WN,List.length_cons,List.length_replicate]
theorem WN_at(n x k:Nat)(h:k<(WN n x).length):(WN n x)[k]=if k=0 then x else 0:=by
 cases k with
 | zero=>rfl
 | succ j=>simp only [WN,List.getElem_cons_succ,List.getElem_replicate];rfl
theorem WN_set(n x y:Nat):(WN n x).set 0 y=WN n y:=rfl
theorem WN_zero(n:Nat):WN n 0=List.replicate (n+1) 0:=rfl
def W0(x:Nat):List Nat:=WN 1023 x
theorem W0_len(x:Nat):(W0 x).length=1024:=WN_len 1023 x
theorem W0_at(x k:Nat)(h:k<(W0 x).length):(W0 x)[k]=if k=0 then x else 0:=WN_at 1023 x k h
theorem W0_set(x y:Nat):(W0 x).set 0 y=W0 y:=WN_set 1023 x y
theorem W0_zero:W0 0=List.replicate 1024 0:=WN_zero 1023
abbrev SlW(w:World)(A:Option Addr)(c x:Nat):Prop:=Sl w 1 u64V A c (W0 x)
theorem slw_form{w:World}{A:Option Addr}{c x:Nat}(h:SlW w A c x):∃ b off,A=some ⟨b,off,none⟩∧b<w.heap.size:=by
 obtain ⟨b,off,hA,hc⟩:=h.at_ 0 (by rw [W0_len];decide);exact ⟨b,off,hA,block_lt_of_cell (hc 0 _ rfl)⟩
theorem slw_at{w:World}{b off c x:Nat}(h:SlW w (some ⟨b,off,none⟩) c x)(k:Nat)(hk:k<1024):w.cell? ⟨b,off+k,none⟩=some (.int .u64 ((if k=0 then x else 0:Nat):Int)):=by
 obtain ⟨b',off',hA,hc⟩:=h.at_ k (by rw [W0_len];exact hk);injection hA with hA;injection hA with e1 e2;subst e1;subst e2;have h0:=hc 0 _ rfl;rw [Nat.mul_one,Nat.add_zero] at h0;rw [h0,W0_at]
theorem wlen_any(A:Option Addr)(c x:Nat)(w:World)(h:SlW w A c x) :
 Calls Tryz.prog 245 #[.slice A 1024 c] w fun e w'=>e=.returned (.int .i64 (popN x:Nat))∧Keep w w':=by
 obtain ⟨b,off,rfl,hb⟩:=slw_form h;have H:=lh h;clear h;go_enter Tryz.func245,Tryz.ntmps245;go_wp2;go_loopw [3,8] (fun vm vi wr=>∃ k m:Nat,k≤1024∧vi=.int .i64 k∧vm=.int .i64 m∧m≤127∧Hid (m=if k=0 then 0 else popN x)∧Hid (Keep w wr)) (fun _ vi _=>1024-(intOf vi).toNat)
 case atStart=>exact ⟨0,0,by omega,rfl,rfl,by omega,rfl,Keep.refl _⟩
 case round =>
  obtain ⟨k,m,hk,rfl,rfl,hm,HM,HK⟩:=hrel
  by_cases hlt:k<1024
  ·have h0:=slw_at (H.out.keep HK.out) k hlt;have hbb:=Nat.lt_of_lt_of_le hb HK.out.size;have HST:=lh (show m+popN (if k=0 then x else 0)=if k+1=0 then 0 else popN x by
    have e0:(if k+1=0 then 0 else popN x)=popN x:=if_neg (Nat.succ_ne_zero _);rw [HM.out,e0]
    by_cases e:k=0
    ·simp only [if_pos e];omega
    ·simp only [if_neg e,popN_zero];omega)
   have HST2:=lh (show (if k+1=0 then 0 else popN x)=popN x from if_neg (Nat.succ_ne_zero _));have hpl:=popN_le x;have HPL:=lh hpl;generalize (if k=0 then x else 0)=y at h0 HST;have HC:=lh (pop_any y);have hpy:=popN_le y;generalize popN y=t at HC hpy HST;have e1:IntKind.i64.wrap ((m:Int)+(t:Int))=((m+t:Nat):Int):=by rw [IntWalk.i64_in _ ⟨by omega,by omega⟩];omega
   clear hpl;go_wp2_with (go_at_call 274;refine hold ?_);refine unhold ?_;refine (HC.out _).mono ?_;rintro e w1 ⟨rfl,hk1⟩;have HK1:=lh (HK.out.trans hk1);clear hk1;go_wp2;go_roundw
   case rel=>exact ⟨k+1,m+t,by omega,by go_num,by go_num,by have h1:=HST.out;rw [HST2.out] at h1;have:=HPL.out;omega,HST.out,HK1.out⟩
   case measure=>simp [intOf];omega
  ·have hkn:k=1024:=by omega
   subst hkn;go_wp2;go_ret;exact ⟨ret_int (by rw [HM.out];rfl),HK.out⟩
theorem wruns_any(A:Option Addr)(c x:Nat)(w:World)(hx:x<18446744073709551616)(h:SlW w A c x) :
 Calls Tryz.prog 272 #[.slice A 1024 c] w fun e w'=>e=.returned (.int .i64 (popN (x &&& (18446744073709551615-x*2%18446744073709551616)):Nat))∧Keep w w':=by
 obtain ⟨b,off,rfl,hb⟩:=slw_form h;have H:=lh h;clear h;obtain ⟨R,hR⟩:∃ R,R=popN (x &&& (18446744073709551615-x*2%18446744073709551616)):=⟨_,rfl⟩;have HRR:=lh hR;have hRl:R≤127:=by rw [hR];exact popN_le _
 rw [← hR];clear hR;go_enter Tryz.func272,Tryz.ntmps272;go_wp2;go_loopw [3,4,9] (fun vm vl vi wr=>∃ k m l:Nat,k≤1024∧vi=.int .i64 k∧vm=.int .i64 m∧vl=.int .u64 l∧m≤127∧l<18446744073709551616∧Hid (m=if k=0 then 0 else R)∧Hid (k=0→l=0)∧Hid (Keep w wr)) (fun _ _ vi _=>1024-(intOf vi).toNat)
 case atStart=>exact ⟨0,0,0,by omega,rfl,rfl,rfl,by omega,by omega,rfl,fun _=>rfl,Keep.refl _⟩
 case round =>
  obtain ⟨k,m,l,hk,rfl,rfl,rfl,hm,hl,HM,HL,HK⟩:=hrel
  by_cases hlt:k<1024
  ·have h0:=slw_at (H.out.keep HK.out) k hlt;have hbb:=Nat.lt_of_lt_of_le hb HK.out.size;obtain ⟨y,hy⟩:∃ y,y=if k=0 then x else 0:=⟨_,rfl⟩
   rw [← hy] at h0;have hyl:y<18446744073709551616:=by rw [hy];split<;>omega
   obtain ⟨s,hs⟩:∃ s,s=y*2%18446744073709551616:=⟨_,rfl⟩;have hsl:s<18446744073709551616:=by omega
   have e1:IntKind.u64.wrap ((y:Int)*2)=(s:Int):=by rw [IntKind.wrap_u64];omega
   obtain ⟨t,ht⟩:∃ t,t=s ||| l:=⟨_,rfl⟩
   have htl:t<18446744073709551616:=by rw [ht];exact Nat.or_lt_two_pow (n:=64) hsl hl
   have e2:bits .or .u64 (s:Int) (l:Int)=(t:Int):=by rw [ht];exact u64_or_nat s l hsl hl
   obtain ⟨v,hv⟩:∃ v,v=y &&& (18446744073709551615-t):=⟨_,rfl⟩;have e3:bits .andNot .u64 (y:Int) (t:Int)=(v:Int):=by rw [hv];exact u64_andNot_nat y t hyl htl
   obtain ⟨q,hq⟩:∃ q,q=y/9223372036854775808:=⟨_,rfl⟩;have e4:(y:Int)/9223372036854775808=(q:Int):=by omega
   have hql:q<18446744073709551616:=by omega
   have HST:=lh (show m+popN v=if k+1=0 then 0 else R by
    have e0:(if k+1=0 then 0 else R)=R:=if_neg (Nat.succ_ne_zero _);rw [HM.out,e0]
    by_cases e:k=0
    ·have hyx:y=x:=by rw [hy,if_pos e]
     have hl0:=HL.out e;have hts:t=s:=by rw [ht,hl0,Nat.or_zero]
     rw [if_pos e,HRR.out,hv,hts,hs,hyx];omega
    ·have hy0:y=0:=by rw [hy,if_neg e]
     rw [if_neg e,hv,hy0,Nat.zero_and,popN_zero];omega)
   have HST2:=lh (show (if k+1=0 then 0 else R)=R from if_neg (Nat.succ_ne_zero _));clear hy hs ht hv hq hsl htl;have HC:=lh (pop_any v);have hpy:=popN_le v;generalize popN v=u at HC hpy HST;have e5:IntKind.i64.wrap ((m:Int)+(u:Int))=((m+u:Nat):Int):=by rw [IntWalk.i64_in _ ⟨by omega,by omega⟩];omega
   go_wp2_with (go_at_call 274;refine hold ?_);refine unhold ?_;refine (HC.out _).mono ?_;rintro e w1 ⟨rfl,hk1⟩;have HK1:=lh (HK.out.trans hk1);clear hk1;go_wp2;go_roundw
   case rel=>exact ⟨k+1,m+u,q,by omega,by go_num,by go_num,rfl,by have h1:=HST.out;rw [HST2.out] at h1;omega,hql,HST.out,(fun e=>absurd e (Nat.succ_ne_zero _)),HK1.out⟩
   case measure=>simp [intOf];omega
  ·have hkn:k=1024:=by omega
   subst hkn;go_wp2;go_ret;exact ⟨ret_int (by rw [HM.out];rfl),HK.out⟩
theorem u64_len(x:Nat):(u64V x).length=1:=rfl
theorem u64_one(x:Nat):∀ u∈u64V x,u.oneCell'=true:=fun u hu=>by simp [u64V] at hu;subst hu;rfl
abbrev OwnW(w:World)(base:Nat)(v:Value)(x:Nat):Prop:=Own w base 47 1 u64V v (W0 x)
theorem made_w0(W:World):∃ W',(Instr.makeSlice 104 (.int .i64 1024) (.int .i64 1024)).run Tryz.prog W=.ok (.slice (some ⟨W.heap.size,0,none⟩) 1024 1024) W'∧OwnW W' W.heap.size (.slice (some ⟨W.heap.size,0,none⟩) 1024 1024) 0∧Keep W W':=by
 obtain ⟨i0,hi0,i1,i2,i3⟩:=info_parts info_u64;obtain ⟨W',hr,ho,hk⟩:=own_made1 (P:=Tryz.prog) (z:=(0:Nat)) u64_f rfl Tryz.underlying104 hi0 i1 i2 1024 W.heap.size W (by rw [i3];omega) (by omega) (Nat.le_refl _);exact ⟨W',hr,ho,hk⟩
theorem two_shl(v:Nat)(h:v<64):(2^v:Nat)<18446744073709551616:=Nat.lt_of_lt_of_le (Nat.pow_lt_pow_right (by decide) h) (by decide)
theorem ofW_take(a:List Nat)(k:Nat)(h:k<a.length):Roa.ofW (a.take (k+1))=Roa.ofW (a.take k) ||| (1 <<< a[k]):=by
 unfold Roa.ofW;rw [List.take_succ_eq_append_getElem h,List.foldl_append];rfl
theorem wof_any(A:Option Addr)(c:Nat)(a:List Nat)(w:World)(h:Sl w 1 u16V A c a)(hb:∀ x∈a,x<64)(hl:a.length≤65536) :
 Calls Tryz.prog 250 #[.slice A a.length c] w fun e w'=>∃ v,e=.returned v∧OwnW w' w.heap.size v (Roa.ofW a)∧Keep w w':=by
 have H:=lh h;have HB:=lh hb;generalize hn:a.length=n at hl;have HN:=lh hn;obtain ⟨W',hmk,ho,hkm⟩:=made_w0 w;have HO:=lh ho;have HK:=lh hkm;have HG:=lh (Nat.le_refl w.heap.size);clear h hb hn ho hkm;generalize hg:w.heap.size=g at HO hmk;have HGE:=lh hg;clear hg;go_enter Tryz.func250,Tryz.ntmps250;go_wp2;clear hmk;go_loopw [9] (fun vi wr=>∃ k:Nat,k≤n∧vi=.int .i64 k∧Hid (OwnW wr g (.slice (some ⟨g,0,none⟩) 1024 1024) (Roa.ofW (a.take k)))∧Hid (Keep w wr)) (fun vi _=>n-(intOf vi).toNat)
 case atStart=>exact ⟨0,Nat.zero_le _,rfl,HO.out,HK.out⟩
 case round =>
  clear HO HK;obtain ⟨k,hk,rfl,HO,HK⟩:=hrel
  by_cases hlt:k<n
  ·have hkn:k<a.length:=by rw [HN.out];exact hlt
   obtain ⟨b,off,hA,hb,h0⟩:=sl_u16 (H.out.keep HK.out) k hkn;subst hA;have hvb:=HB.out a[k] (List.getElem_mem _);have HS:=lh (ofW_take a k hkn);have hxl:=Roa.ofW_lt (a.take k) (fun x hx=>HB.out x (List.mem_of_mem_take hx));generalize Roa.ofW (a.take k)=x at HO HS hxl;generalize a[k]=v at h0 hvb HS;obtain ⟨c0,c1,c2,c3⟩:=HO.out.cell1 u64_f (W0_len x).symm 0 (by rw [W0_len];decide);rw [W0_at,if_pos rfl] at c0;have ho2:=HO.out.set1 u64_f (W0_len x).symm 0 (x ||| (1 <<< v)) rfl;rw [W0_set] at ho2;have HO2:=lh ho2;have HC3:=lh c3;have e1:(v:Int)/64=0:=by omega
   have e2:(v:Int)%64=(v:Int):=by omega
   have hz:(1 <<< v:Nat)<18446744073709551616:=by rw [Nat.one_shiftLeft];exact two_shl v hvb
   have e3:IntKind.u64.wrap ((2:Int)^v)=((1 <<< v:Nat):Int):=by
    rw [Nat.one_shiftLeft] at hz ⊢;rw [show ((2:Int)^v)=((2^v:Nat):Int) by simp];generalize (2^v:Nat)=z at hz ⊢;rw [IntKind.wrap_u64];omega
   have e4:bits .or .u64 (x:Int) ((1 <<< v:Nat):Int)=((x ||| (1 <<< v):Nat):Int):=u64_or_nat _ _ hxl hz;generalize (1 <<< v:Nat)=z at e3 e4 HO2 HS;generalize x ||| z=t at e4 HO2 HS
   clear ho2 c3 hz;go_wp2;go_roundw
   case rel=>exact ⟨k+1,by omega,by go_num,by show OwnW _ _ _ _;rw [HS.out];exact HO2.out,HK.out.setCell (by rw [HGE.out];exact HC3.out) _⟩
   case measure=>simp [intOf];omega
  ·have hkn:k=n:=by omega
   subst hkn;rw [← HN.out,List.take_length] at HO;go_wp2;exact bodyPost_ret (v:=.slice (some ⟨g,0,none⟩) 1024 1024) (by simp [results,Tryz.results250,go_sem]) rfl ⟨_,rfl,HO.out,HK.out⟩
theorem bits_stop(y:Nat)(hy:y<18446744073709551616)(f:Nat)(h:2^(64-f) ∣ y)(hf:f≤64)(h0:¬ y=0):0<f:=by
 rcases Nat.eq_zero_or_pos f with e|e
 ·subst e;exact absurd (Roa.dvd_zero hy h) h0
 ·exact e
theorem wlist_any(A:Option Addr)(c x:Nat)(w:World)(hx:x<18446744073709551616)(h:SlW w A c x)(htab:Tab w) :
 Calls Tryz.prog 252 #[.slice A 1024 c] w fun e w'=>∃ v,e=.returned v∧OwnU16 w' w.heap.size v (Roa.bitsL tzN 64 x)∧Keep w w':=by
 obtain ⟨b,off,rfl,hb⟩:=slw_form h;have H:=lh h;have HT:=lh htab;clear h htab;go_enter Tryz.func252,Tryz.ntmps252;go_wp2;go_loopw [3,9] (fun vl vi wr=>∃ (k:Nat) (v:Value),k≤1024∧vi=.int .i64 k∧v=vl∧Hid (OwnU16 wr w.heap.size v (if k=0 then [] else Roa.bitsL tzN 64 x))∧Hid (Keep w wr)) (fun _ vi _=>1024-(intOf vi).toNat)
 case atStart=>exact ⟨0,.slice none 0 0,by omega,rfl,rfl,Own.nil_ _ _ _ _ _,Keep.refl _⟩
 case round =>
  obtain ⟨k,v,hk,rfl,rfl,HO,HK⟩:=hrel
  by_cases hlt:k<1024
  ·have h0:=slw_at (H.out.keep HK.out) k hlt;have hbb:=Nat.lt_of_lt_of_le hb HK.out.size;have hdk:decide ((k:Int)<1024)=true:=by simp;omega
   have hdk2:(k:Int)<1024:=by omega
   by_cases hk0:k=0
   ·rw [if_pos hk0] at h0 HO;have HK0:=lh hk0;have e6:IntKind.i64.wrap (64*(k:Int))=0:=by rw [IntWalk.i64_in _ ⟨by omega,by omega⟩];omega
    have e7:64*(k:Int)=0:=by omega
    have hne:¬ k+1=0:=Nat.succ_ne_zero _;clear hk0;go_wp2;go_loopw [3,5] (fun vl vx wq=>∃ (f y:Nat) (u:Value) (L:List Nat),f≤64∧y<18446744073709551616∧vx=.int .u64 y∧u=vl∧Hid (2^(64-f) ∣ y)∧Hid (L++Roa.bitsL tzN f y=Roa.bitsL tzN 64 x)∧L.length≤64-f∧Hid (OwnU16 wq w.heap.size u L)∧Hid (Keep w wq)) (fun _ vx _=>(intOf vx).toNat)
    case atStart=>exact ⟨64,x,v,[],by omega,hx,rfl,rfl,(by show 2^(64-64) ∣ x;simp),rfl,by simp,HO.out,HK.out⟩
    case round =>
     clear HO HK;obtain ⟨f,y,u,L,hf,hyl,rfl,rfl,HD,HE,hLl,HO,HK⟩:=hrel
     by_cases hy:y=0
     ·subst hy;have HE2:=lh (show L=Roa.bitsL tzN 64 x by
          have:=HE.out;rw [show Roa.bitsL tzN f 0=[] by cases f<;>simp [Roa.bitsL],List.append_nil] at this;exact this)
      go_wp2;go_roundw
      case rel=>exact ⟨k+1,u,by omega,by go_num,rfl,(by show OwnU16 _ _ _ _;rw [if_neg hne,← HE2.out];exact HO.out),HK.out⟩
      case measure=>simp [intOf];omega
     ·have hfp:=bits_stop y hyl f HD.out hf hy;obtain ⟨j,hj⟩:∃ j,f=j+1:=⟨f-1,by omega⟩;subst hj;have HD2:=lh (show 2^(64-j) ∣ y &&& (y-1) by
          have:=Roa.low_gone hy HD.out;rw [show 64-(j+1)+1=64-j by omega] at this;exact this)
      have HE2:=lh (show (L++[tzN y])++Roa.bitsL tzN j (y &&& (y-1))=Roa.bitsL tzN 64 x by
          have:=HE.out;rw [show Roa.bitsL tzN (j+1) y=tzN y :: Roa.bitsL tzN j (y &&& (y-1)) by simp [Roa.bitsL,hy]] at this;rw [← this];simp)
      have HC:=lh (fun W (hW:Keep w W)=>tz_any y hy W (HT.out.keep hW));have hnl:=tzN_lt y;have hyle:y &&& (y-1)≤y-1:=Nat.and_le_right;have e0:((y:Int) != 0)=true:=by simp;omega
      have e00:¬ (y:Int)=0:=by omega
      obtain ⟨z,hz⟩:∃ z,z=y-1:=⟨_,rfl⟩;have e1:IntKind.u64.wrap ((y:Int)-1)=(z:Int):=by rw [IntKind.wrap_u64];omega
      have hzl:z<18446744073709551616:=by omega
      rw [← hz] at hyle HD2 HE2;have e2:bits .and .u64 (y:Int) (z:Int)=((y &&& z:Nat):Int):=u64_and_nat y z hyl hzl;have hzy:z<y:=by omega
      generalize y &&& z=t at e2 hyle HD2 HE2;generalize tzN y=n at HC hnl HE2;have htl:t<y:=by omega
      have e5:IntKind.u16.wrap (n:Int)=(n:Int):=by simp [IntKind.wrap,IntKind.signed,IntKind.bits];omega
      clear hz hy;go_wp2_with (go_at_call 266;refine hold ?_);refine unhold ?_;refine (HC.out _ HK.out).mono ?_;rintro e w4 ⟨rfl,hk4⟩;have HK4:=lh (HK.out.trans hk4);have HO4:=lh (HO.out.keep hk4);clear hk4 HK HO HC;go_wp2_with (at_builtin;refine hold ?_);refine unhold ?_;have HO5:OwnU16 (w4.alloc (.cells #[.int .u16 (n:Int)] 126)) w.heap.size u L:=HO4.out.keep (Keep.alloc (Keep.refl _) _);refine wpList_app elt_u16 u16_len u16_one rfl (.tmp 22) (.tmp 29) rfl (ys:=[n]) HO5 rfl rfl (sl_one _ (by omega) (by omega) (fun j q hq=>by match j,hq with|0,hq=>cases hq;simp [go_sem])) (by simp;omega) (by have:=HK4.out.size;simp;omega) ?_;intro v1 w5 hown5 hg5 _;have HK5:=lh (show Keep w w5 from Own.kept HO5 hg5 (HK4.out.alloc _) (Nat.le_refl _));have HO6:=lh hown5;clear hown5 hg5 HO5 HO4 HK4;go_wp2;go_roundw
      case rel=>exact ⟨j,t,v1,L++[n],by omega,by omega,rfl,rfl,HD2.out,HE2.out,by simp;omega,HO6.out,HK5.out⟩
      case measure=>simp [intOf];omega
   ·rw [if_neg hk0] at h0 HO;have hne:¬ k+1=0:=Nat.succ_ne_zero _;clear hk0;go_wp2;refine wp_loop_rounds 1 ?_;rw [rounds_succ];go_wp2;go_roundw
    case rel=>exact ⟨k+1,v,by omega,by go_num,rfl,(by show OwnU16 _ _ _ _;rw [if_neg hne];exact HO.out),HK.out⟩
    case measure=>simp [intOf];omega
  ·have hkn:k=1024:=by omega
   subst hkn;rw [if_neg (by decide)] at HO;go_wp2;exact bodyPost_ret (v:=v) (by simp [results,Tryz.results252,go_sem]) rfl ⟨_,rfl,HO.out,HK.out⟩
end Go.Proofs.YtpkocnpamcchcaaGreatDoor
namespace Go.Zone
open Go.RowKit
theorem own_of_row{α:Type}{w:World}{base g n k:Nat}{e:TypeId}{enc:α→List Value}{xs:List α}(hk:∀ x,(enc x).length=k)(h:Row w g e (xs.flatMap enc))(hn:xs.length=n)(hb:base≤g)(hm:n≤9223372036854775807):Own w base e k enc (.slice (some ⟨g,0,none⟩) n n) xs:=by
 have hl:=flat_len hk xs;refine ⟨?_,.inr ⟨g,n,(xs.flatMap enc).toArray,by rw [hn],hb,h,?_,?_,?_,?_⟩⟩
 all_goals first|(simp [hn,hl];done)|(show List.take (xs.length*k) (xs.flatMap enc)=xs.flatMap enc;rw [← hl,List.take_length];done)|(rw [hn];exact Nat.le_refl _)|(unfold maxLen;omega)|skip
end Go.Zone
namespace Go.Proofs.YtpkocnpamcchcaaGreatDoor
open Go.RowKit Go.Zone Go.Shelf
attribute [local go_sem] zone stepZ fill lookFs goes goesUpon dropFs cell_gro frozen_gro size_gro lt_add drew_gro tape_gro keep_refl
attribute [local go_sem] lt_add2 lt_add3 lt_add4 lt_add5 lt_add6 lt_add7 lt_add8 lt_add9 lt_add10 lt_add11 lt_add12
theorem W0_setk(x y z k v:Nat)(hk:k<1024)(hz:z=if k=0 then x else y)(hv:v=if k=0 then y else 0):(W0 z).set k v=W0 y:=by
 by_cases e:k=0
 ·subst e;rw [if_pos rfl] at hv;rw [hv,W0_set]
 ·rw [if_neg e] at hz hv;subst hz;have h1:=W0_at z k (by rw [W0_len];exact hk);rw [if_neg e] at h1;have h2:=@List.set_getElem_self _ (W0 z) k (by rw [W0_len];exact hk);rw [h1] at h2;rw [hv];exact h2
theorem or1_any(x y:Nat)(w:World)(hx:x<18446744073709551616)(hy:y<18446744073709551616):Calls Tryz.prog 260 #[.int .u64 (x:Int),.int .u64 (y:Int)] w fun e w'=>e=.returned (.int .u64 ((x ||| y:Nat):Int))∧Keep w w':=by
 have e1:bits .or .u64 (x:Int) (y:Int)=((x ||| y:Nat):Int):=u64_or_nat x y hx hy;generalize x ||| y=z at e1 ⊢
 go_enter Tryz.func260,Tryz.ntmps260;go_wp2;go_ret;exact ⟨rfl,Keep.refl _⟩
theorem weach_any(A B:Option Addr)(c d x y:Nat)(w:World)(hx:x<18446744073709551616)(hy:y<18446744073709551616)(h:SlW w A c x)(h2:SlW w B d y) :
 Calls Tryz.prog 259 #[.slice A 1024 c,.slice B 1024 d,.func (.func 260) #[] #[]] w fun e w'=>∃ v,e=.returned v∧OwnW w' w.heap.size v (x ||| y)∧Keep w w':=by
 obtain ⟨b,off,rfl,hb⟩:=slw_form h;obtain ⟨b2,off2,rfl,hb2⟩:=slw_form h2;have H:=lh h;have H2:=lh h2;obtain ⟨W',hmk,ho,hkm⟩:=made_w0 w;have HO:=lh ho;have HK:=lh hkm;clear h h2 ho hkm;generalize hg:w.heap.size=g at HO hmk;have HGE:=lh hg;clear hg;go_enter Tryz.func259,Tryz.ntmps259;go_wp2;clear hmk;go_loopw [15] (fun vi wr=>∃ k:Nat,k≤1024∧vi=.int .i64 k∧Hid (OwnW wr g (.slice (some ⟨g,0,none⟩) 1024 1024) (if k=0 then 0 else x ||| y))∧Hid (Keep w wr)) (fun vi _=>1024-(intOf vi).toNat)
 case atStart=>exact ⟨0,by omega,rfl,HO.out,HK.out⟩
 case round =>
  clear HO HK;obtain ⟨k,hk,rfl,HO,HK⟩:=hrel
  by_cases hlt:k<1024
  ·have h0:=slw_at (H.out.keep HK.out) k hlt;have h1:=slw_at (H2.out.keep HK.out) k hlt;have hbb:=Nat.lt_of_lt_of_le hb HK.out.size;have hbb2:=Nat.lt_of_lt_of_le hb2 HK.out.size;obtain ⟨p,hp⟩:∃ p,p=if k=0 then x else 0:=⟨_,rfl⟩
   obtain ⟨q,hq⟩:∃ q,q=if k=0 then y else 0:=⟨_,rfl⟩
   rw [← hp] at h0;rw [← hq] at h1;have hpl:p<18446744073709551616:=by rw [hp];split<;>omega
   have hql:q<18446744073709551616:=by rw [hq];split<;>omega
   have HC:=lh (fun W=>or1_any p q W hpl hql);obtain ⟨z,hz⟩:∃ z,z=if k=0 then 0 else x ||| y:=⟨_,rfl⟩
   rw [← hz] at HO;have HS:=lh (W0_setk 0 (x ||| y) z k (p ||| q) hlt hz (by rw [hp,hq];by_cases e:k=0<;>simp [e]));obtain ⟨c0,c1,c2,c3⟩:=HO.out.cell1 u64_f (W0_len z).symm k (by rw [W0_len];exact hlt);have HO2:=lh (fun W (hW:Keep wr W)=>(show OwnW (W.setCell ⟨g,k,none⟩ (.int .u64 ((p ||| q:Nat):Int))) g (.slice (some ⟨g,0,none⟩) 1024 1024) (x ||| y) from by
    have ho2:=(HO.out.keep hW).set1 u64_f (W0_len z).symm k (p ||| q) rfl;rw [HS.out] at ho2;exact ho2))
   have HC3:=lh c3;have HCC:=lh (fun W (hW:Keep wr W)=>(hW.cell (p:=⟨g,k,none⟩) c2).trans c0);have HSF:=lh (fun W (hW:Keep wr W)=>((HO.out.keep hW).cell1 u64_f (W0_len z).symm k (by rw [W0_len];exact hlt)).2.1);generalize (W0 z)[k]'(by rw [W0_len];exact hlt)=t at c0 HCC;generalize p ||| q=r at HC HO2
   have hne:¬ k+1=0:=Nat.succ_ne_zero _;clear c3 hp hq hz HS HO;go_wp2
   first|refine Zone.wp_region_gro 12 (by kernel_rfl) (by kernel_rfl) ?_|refine Zone.wp_region 12 (by kernel_rfl) (by kernel_rfl) ?_
   simp only [List.take_succ_cons,List.take_zero,List.drop_succ_cons,List.drop_zero]
   repeat
    refine Zone.wpZ_step (fun K hK=>?_);go_simp
    first
    | (refine hK _ _ ?_;clear hK K)
    | (apply Exists.intro
       refine ⟨fun p=>?_,hK _ _ ?_⟩
       ((go_at_call 260;exact Zone.zc (HC.out _)))
       clear hK K)
   refine Zone.wpZ_nil ?_;intro p5;simp only [Zone.fill];have hk5:Keep wr (wr.gro p5):=(by repeat first|exact kp0|apply kp1|apply kp2|apply kp3|apply kp4);generalize wr.gro p5=w5 at hk5 ⊢;have HK5:=lh hk5;have d0:=HCC.out w5 hk5;have d1:=HSF.out w5 hk5;have d2:=Nat.lt_of_lt_of_le c2 hk5.size;clear c0 c1 c2 h0 h1 hbb hbb2 hk5;go_wp2;go_roundw
   case rel=>exact ⟨k+1,by omega,by go_num,(by show OwnW _ _ _ _;rw [if_neg hne];exact HO2.out w5 HK5.out),(HK.out.trans HK5.out).setCell (by rw [HGE.out];exact HC3.out) _⟩
   case measure=>simp [intOf];omega
  ·have hkn:k=1024:=by omega
   subst hkn;rw [if_neg (by decide)] at HO;go_wp2;exact bodyPost_ret (v:=.slice (some ⟨g,0,none⟩) 1024 1024) (by simp [results,Tryz.results259,go_sem]) rfl ⟨_,rfl,HO.out,HK.out⟩
theorem wor_any(A B:Option Addr)(c d x y:Nat)(w:World)(hx:x<18446744073709551616)(hy:y<18446744073709551616)(h:SlW w A c x)(h2:SlW w B d y) :
 Calls Tryz.prog 217 #[.slice A 1024 c,.slice B 1024 d] w fun e w'=>∃ v,e=.returned v∧OwnW w' w.heap.size v (x ||| y)∧Keep w w':=by
 have HC:=lh (weach_any A B c d x y w hx hy h h2);clear h h2;go_enter Tryz.func217,Tryz.ntmps217;go_wp2_with (go_at_call 259;refine hold ?_);refine unhold ?_;refine HC.out.mono ?_;rintro e w1 ⟨v,rfl,ho,hk⟩;go_wp2;go_ret;exact ⟨v,rfl,ho,hk⟩
theorem uint64_size:(Tryz.prog.info? 47).map (·.size)=some 1:=by kernel_rfl
theorem made_w0r(W:World):∃ W',(Instr.makeSlice 104 (.int .i64 1024) (.int .i64 1024)).run Tryz.prog W=.ok (.slice (some ⟨W.heap.size,0,none⟩) 1024 1024) W'∧Row W' W.heap.size 47 ((W0 0).flatMap u64V)∧Keep W W':=by
 obtain ⟨i,hi,h1,h2,h3⟩:=info_parts info_u64;have hr:=run_make (P:=Tryz.prog) W 104 47 i _ Tryz.underlying104 hi h1 .i64 .i64 1024 1024 (by omega) (by omega) (by rw [h3];omega) (by omega);refine ⟨_,hr,?_,Keep.alloc (Keep.refl _) _⟩;rw [h2];have e:(madeCells (Value.int .u64 0).cells ((1024:Int).toNat*1))=((W0 0).flatMap u64V).toArray:=by
  rw [W0_zero,show (1024:Int).toNat*1=1024 from rfl];generalize 1024=n;apply Array.ext
  ·simp [madeCells,flat_len u64_len]
  ·intro i h1 h2;have h3:i<n:=by simpa [madeCells] using h1
   have hf:=flat_get (k:=1) (enc:=u64V) u64_len (List.replicate n 0) i 0 (by simpa using h3) (.int .u64 0) (by simp [u64V]);rw [Nat.mul_one,Nat.add_zero] at hf;obtain ⟨_,hf2⟩:=List.getElem?_eq_some_iff.1 hf;simp [madeCells,Value.cells,Nat.mod_one,hf2]
 rw [e];exact row_alloc _ _ _
theorem wflip_any(A:Option Addr)(c x lo hi:Nat)(w:World)(hx:x<18446744073709551616)(h:SlW w A c x)(hlo:lo<hi)(hhi:hi≤64) :
 Calls Tryz.prog 251 #[.slice A 1024 c,.int .i64 lo,.int .i64 hi] w fun e w'=>∃ v,e=.returned v∧OwnW w' w.heap.size v (Roa.flipW x lo hi)∧Keep w w':=by
 have H:=lh h;obtain ⟨W',hmk,ho,hkm⟩:=made_w0r w;have HO:=lh ho;have HK:=lh hkm;clear h ho hkm;generalize hg:w.heap.size=g at HO hmk;have HGE:=lh hg;clear hg;go_enter Tryz.func251,Tryz.ntmps251;go_wp2_with (with_reducible refine Zone.hold_at 14 ?_);refine unhold ?_;clear hmk;refine wpList_copy_k rfl (.tmp 12) (.tmp 13) 104 104 47 rfl Tryz.underlying104 uint64_size u64_len u64_one rfl rfl (W0_len x).symm (H.out.keep HK.out) HO.out (by rw [flat_len u64_len,W0_len]) ?_;intro w3 hr3 ht3;have HO3:=lh (own_of_row u64_len hr3 (W0_len x) (Nat.le_refl g) (by decide));have HK3:=lh (Turn.after HK.out ht3 (fun i hi=>by simp only [List.mem_singleton] at hi;rw [hi,HGE.out];exact Nat.le_refl _));clear hr3 ht3 HO HK;have m1:max (lo:Int) 0=(lo:Int):=by omega
 have m2:min (hi:Int) 65536=(hi:Int):=by omega
 go_wp2;go_loopw [19] (fun vi wr=>∃ k:Nat,k≤1024∧vi=.int .i64 k∧Hid (OwnW wr g (.slice (some ⟨g,0,none⟩) 1024 1024) (if k=0 then x else Roa.flipW x lo hi))∧Hid (Keep w wr)) (fun vi _=>1024-(intOf vi).toNat)
 case atStart=>exact ⟨0,by omega,rfl,HO3.out,HK3.out⟩
 case round =>
  clear HO3 HK3;obtain ⟨k,hk,rfl,HO,HK⟩:=hrel
  by_cases hlt:k<1024
  ·have hdk:decide ((k:Int)<1024)=true:=by simp;omega
   have hdk2:(k:Int)<1024:=by omega
   obtain ⟨s,hs⟩:∃ s,s=64*k:=⟨_,rfl⟩;have e1:IntKind.i64.wrap (64*(k:Int))=(s:Int):=by rw [IntWalk.i64_in _ ⟨by omega,by omega⟩];omega
   obtain ⟨t,ht⟩:∃ t,t=s+64:=⟨_,rfl⟩;have e2:IntKind.i64.wrap ((s:Int)+64)=(t:Int):=by rw [IntWalk.i64_in _ ⟨by omega,by omega⟩];omega
   have hne:¬ k+1=0:=Nat.succ_ne_zero _
   by_cases hk0:k=0
   ·rw [if_pos hk0] at HO;have m3:max (lo:Int) (s:Int)=(lo:Int):=by omega
    have m4:min (hi:Int) (t:Int)=(hi:Int):=by omega
    have HS:=lh (W0_setk x (Roa.flipW x lo hi) x k (Roa.flipW x lo hi) hlt (by rw [if_pos hk0]) (by rw [if_pos hk0]));obtain ⟨c0,c1,c2,c3⟩:=HO.out.cell1 u64_f (W0_len x).symm k (by rw [W0_len];exact hlt);rw [W0_at,if_pos hk0] at c0;have ho2:=HO.out.set1 u64_f (W0_len x).symm k (Roa.flipW x lo hi) rfl;rw [HS.out] at ho2;have HO2:=lh ho2;have HC3:=lh c3;obtain ⟨d,hd⟩:∃ d,d=hi-lo:=⟨_,rfl⟩;obtain ⟨u,hu⟩:∃ u,u=64-d:=⟨_,rfl⟩;have e3:IntKind.i64.wrap ((hi:Int)-(lo:Int))=(d:Int):=by rw [IntWalk.i64_in _ ⟨by omega,by omega⟩];omega
    have e4:IntKind.i64.wrap (64-(d:Int))=(u:Int):=by rw [IntWalk.i64_in _ ⟨by omega,by omega⟩];omega
    have hu64:u<64:=by omega
    have hlo64:lo<64:=by omega
    obtain ⟨a,ha⟩:∃ a:Nat,a=(2^64-1) >>> u:=⟨_,rfl⟩;have e5:(18446744073709551615:Int)/2^u=(a:Int):=by
     rw [ha,Nat.shiftRight_eq_div_pow,Int.natCast_ediv];simp
    have hal:a<18446744073709551616:=by rw [ha];exact Nat.lt_of_le_of_lt (Nat.shiftRight_le _ _) (by decide)
    obtain ⟨b,hb⟩:∃ b:Nat,b=(a <<< lo)%2^64:=⟨_,rfl⟩;have hbl:b<18446744073709551616:=by rw [hb];exact Nat.mod_lt _ (by decide)
    have e6:IntKind.u64.wrap ((a:Int)*2^lo)=(b:Int):=by
     rw [show ((a:Int)*2^lo)=((a <<< lo:Nat):Int) by rw [Nat.shiftLeft_eq];simp];generalize (a <<< lo:Nat)=z at hb;rw [IntKind.wrap_u64];omega
    have HFE:=lh (show Roa.flipW x lo hi=x ^^^ b by unfold Roa.flipW;rw [hb,ha,hu,hd]);have e7:bits .xor .u64 (x:Int) (b:Int)=((Roa.flipW x lo hi:Nat):Int):=by rw [HFE.out];exact u64_xor_nat x b hx hbl
    have e8:IntKind.i64.wrap ((lo:Int)-(s:Int))=(lo:Int):=by rw [IntWalk.i64_in _ ⟨by omega,by omega⟩];omega
    have m5:decide ((lo:Int)<(hi:Int))=true:=by simp;omega
    have HK0:=lh hk0;generalize Roa.flipW x lo hi=F at e7 HO2;have HKF:=lh (HK.out.setCell (a:=⟨g,k,none⟩) (by rw [HGE.out];exact c3) (.int .u64 (F:Int)));clear hs ht hk0 ho2 c3 hd hu ha hb HFE HS HO;go_wp2;go_region;generalize hW:wr.setCell ⟨g,k,none⟩ (.int .u64 (F:Int))=w5 at HO2 HKF ⊢;clear hW;go_wp2;go_roundw
    case rel=>exact ⟨k+1,by omega,by go_num,(by show OwnW _ _ _ _;rw [if_neg hne];exact HO2.out.keep (by repeat first|exact kp0|apply kp1|apply kp2|apply kp3|apply kp4)),HKF.out.trans (by repeat first|exact kp0|apply kp1|apply kp2|apply kp3|apply kp4)⟩
    case measure=>simp [intOf];omega
   ·rw [if_neg hk0] at HO;have m3:max (lo:Int) (s:Int)=(s:Int):=by omega
    have m4:min (hi:Int) (t:Int)=(hi:Int):=by omega
    have m5:decide ((s:Int)<(hi:Int))=false:=by simp;omega
    have m6:¬ (s:Int)<(hi:Int):=by omega
    clear hs ht hk0;go_wp2;go_roundw
    case rel=>exact ⟨k+1,by omega,by go_num,(by show OwnW _ _ _ _;rw [if_neg hne];exact HO.out),HK.out⟩
    case measure=>simp [intOf];omega
  ·have hkn:k=1024:=by omega
   subst hkn;rw [if_neg (by decide)] at HO;go_wp2;exact bodyPost_ret (v:=.slice (some ⟨g,0,none⟩) 1024 1024) (by simp [results,Tryz.results251,go_sem]) rfl ⟨_,rfl,HO.out,HK.out⟩
end Go.Proofs.YtpkocnpamcchcaaGreatDoor
