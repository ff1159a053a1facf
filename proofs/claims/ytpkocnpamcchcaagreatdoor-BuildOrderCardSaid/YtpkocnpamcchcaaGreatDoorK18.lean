/- Parts of the proof. -/
import Derived.Test.YtpkocnpamcchcaaGreatDoorK17
set_option maxRecDepth 100000
set_option maxHeartbeats 4000000
set_option linter.unusedSimpArgs false
set_option linter.unusedVariables false
set_option linter.unnecessarySimpa false
namespace Go.Proofs.YtpkocnpamcchcaaGreatDoor
open Go.RowKit Go.Zone Go.Shelf
attribute [local go_sem] zone stepZ fill lookFs goes goesUpon dropFs cell_gro frozen_gro size_gro lt_add drew_gro tape_gro keep_refl
attribute [local go_sem] lt_add2 lt_add3 lt_add4 lt_add5 lt_add6 lt_add7 lt_add8 lt_add9 lt_add10 lt_add11 lt_add12
def u16V(x:Nat):List Value:=[.int .u16 (x:Int)]
theorem sl_u16{w:World}{c:Nat}{A:Option Addr}{xs:List Nat}(h:Sl w 1 u16V A c xs)(i:Nat)(hi:i<xs.length):∃ b off,A=some ⟨b,off,none⟩∧b<w.heap.size∧w.cell? ⟨b,off+i,none⟩=some (.int .u16 (xs[i]:Int)):=by
 obtain ⟨b,off,hA,hc⟩:=h.at_ i hi;have h0:=hc 0 _ rfl;rw [Nat.mul_one,Nat.add_zero] at h0;exact ⟨b,off,hA,World.block_lt_of_cell? w _ h0,h0⟩
theorem sl_u16'{w:World}{c b off:Nat}{xs:List Nat}(h:Sl w 1 u16V (some ⟨b,off,none⟩) c xs)(i:Nat)(hi:i<xs.length):b<w.heap.size∧w.cell? ⟨b,off+i,none⟩=some (.int .u16 (xs[i]:Int)):=by
 obtain ⟨b',off',hA,h1,h2⟩:=sl_u16 h i hi;injection hA with hA;injection hA with e1 e2;subst e1;subst e2;exact ⟨h1,h2⟩
theorem nan16(k:Int)(w:World):Calls Tryz.prog 291 #[.int .u16 k] w fun e w'=>e=.returned (.bool false)∧w=w':=by
 go_enter Tryz.func291,Tryz.ntmps291;go_wp2;go_ret;exact ⟨by simp,rfl⟩
theorem less16(x y:Nat)(w:World):Calls Tryz.prog 282 #[.int .u16 (x:Int),.int .u16 (y:Int)] w fun e w'=>e=.returned (.bool (decide (x<y)))∧Keep w w':=by
 go_enter Tryz.func282,Tryz.ntmps282;go_wp2_with (go_at_call 291;refine (nan16 _ _).mono ?_;rintro e w' ⟨rfl,rfl⟩)
 all_goals go_ret
 all_goals exact ⟨by simp_all,Keep.refl _⟩
theorem ord2h_any(bA off c i j n:Nat)(xs:List Nat)(p:Value)(w:World)(hn:xs.length=n)(hs:Up xs)(h:Sl w 1 u16V (some ⟨bA,off,none⟩) c xs)(hij:i≤j)(hj:j<n) :
 Calls Tryz.prog 293 #[.slice (some ⟨bA,off,none⟩) n c,.int .i64 i,.int .i64 j,p] w fun e w'=>e=.returned (.tuple #[.int .i64 i,.int .i64 j])∧Keep w w':=by
 obtain ⟨hb,h0⟩:=sl_u16' h i (by omega);obtain ⟨_,h1⟩:=sl_u16' h j (by omega);have hle:=hs i j hij (by omega);generalize xs[i]'(by omega)=x at h0 hle;generalize xs[j]'(by omega)=y at h1 hle;have HL:=lh (show ∀ W,Calls Tryz.prog 282 #[.int .u16 (y:Int),.int .u16 (x:Int)] W fun e w'=>e=.returned (.bool false)∧Keep W w' from fun W=>by
  have:=less16 y x W
  rwa [show decide (y<x)=false by simp;omega] at this)
 have hi:i<n:=by omega
 clear h hs hn hle;go_enter Tryz.func293,Tryz.ntmps293;go_wp2
 first|refine Zone.wp_region_all_gro (by kernel_rfl) (by kernel_rfl) ?_|refine Zone.wp_region_all (by kernel_rfl) (by kernel_rfl) ?_
 repeat
  refine Zone.wpZ_step (fun K hK=>?_);go_simp
  first
  | (refine hK _ _ ?_;clear hK K)
  | (apply Exists.intro
     refine ⟨fun p=>?_,hK _ _ ?_⟩
     ((go_at_call 282;exact Zone.zc (HL.out _)))
     clear hK K)
 refine Zone.wpZ_nil ?_;intro q;simp only [Zone.fill];go_wp2;exact bodyPost_ret (v:=.tuple #[.int .i64 i,.int .i64 j]) (by simp [results,Tryz.results293,go_sem]) rfl ⟨rfl,(by repeat first|exact kp0|apply kp1|apply kp2|apply kp3|apply kp4)⟩
theorem medh_any(bA off c i j k n:Nat)(xs:List Nat)(p:Value)(w:World)(hn:xs.length=n)(hs:Up xs)(h:Sl w 1 u16V (some ⟨bA,off,none⟩) c xs)(hij:i≤j)(hjk:j≤k)(hk:k<n) :
 Calls Tryz.prog 290 #[.slice (some ⟨bA,off,none⟩) n c,.int .i64 i,.int .i64 j,.int .i64 k,p] w fun e w'=>e=.returned (.int .i64 j)∧Keep w w':=by
 have HO:=lh (fun W (hW:Keep w W) (a b:Nat) (hab:a≤b) (hb:b<n)=>ord2h_any bA off c a b n xs p W hn hs (h.keep hW) hab hb);clear hn hs h;go_enter Tryz.func290,Tryz.ntmps290;go_wp2_with (go_at_call 293;refine hold ?_);refine unhold ?_;refine (HO.out _ (Keep.refl _) i j hij (by omega)).mono ?_;rintro e w1 ⟨rfl,hk1⟩;have HK1:=lh hk1;clear hk1;go_wp2_with (go_at_call 293;refine hold ?_);refine unhold ?_;refine (HO.out _ HK1.out j k hjk hk).mono ?_;rintro e w2 ⟨rfl,hk2⟩;have HK2:=lh (HK1.out.trans hk2);clear hk2;go_wp2_with (go_at_call 293;refine hold ?_);refine unhold ?_;refine (HO.out _ HK2.out i j hij (by omega)).mono ?_;rintro e w3 ⟨rfl,hk3⟩;have HK3:=lh (HK2.out.trans hk3);clear hk3;go_wp2;go_ret;exact ⟨rfl,HK3.out⟩
theorem medadjh_any(bA off c i n:Nat)(xs:List Nat)(p:Value)(w:World)(hn:xs.length=n)(hs:Up xs)(h:Sl w 1 u16V (some ⟨bA,off,none⟩) c xs)(hi:0<i)(hk:i+1<n)(hl:n≤1000000000) :
 Calls Tryz.prog 289 #[.slice (some ⟨bA,off,none⟩) n c,.int .i64 i,p] w fun e w'=>e=.returned (.int .i64 i)∧Keep w w':=by
 obtain ⟨q,hq⟩:∃ q,q+1=i:=⟨i-1,by omega⟩;have HM:=lh (medh_any bA off c q i (i+1) n xs p w hn hs h (by omega) (by omega) hk);have e1:IntKind.i64.wrap ((i:Int)-1)=(q:Int):=by rw [IntWalk.i64_in _ ⟨by omega,by omega⟩];omega
 have e2:IntKind.i64.wrap ((i:Int)+1)=((i+1:Nat):Int):=by rw [IntWalk.i64_in _ ⟨by omega,by omega⟩];omega
 clear hn hs h hq;go_enter Tryz.func289,Tryz.ntmps289;go_wp2_with (go_at_call 290;refine hold ?_);refine unhold ?_;refine HM.out.mono ?_;rintro e w1 ⟨rfl,hk1⟩;go_wp2;go_ret;exact ⟨rfl,hk1⟩
theorem insuh_any(bA off c n:Nat)(xs:List Nat)(w:World)(hn:xs.length=n)(hs:Up xs)(h:Sl w 1 u16V (some ⟨bA,off,none⟩) c xs)(hl:n≤1000000000) :
 Calls Tryz.prog 276 #[.slice (some ⟨bA,off,none⟩) n c,.int .i64 0,.int .i64 n] w fun e w'=>e=.returned (.tuple #[])∧Keep w w':=by
 have H:=lh h;have HS:=lh hs;have HN:=lh hn;clear h hs hn;go_enter Tryz.func276,Tryz.ntmps276;go_wp2;go_loopw [6] (fun vi wr=>∃ i:Nat,vi=.int .i64 i∧1≤i∧Hid (Keep w wr)) (fun vi _=>n-(intOf vi).toNat)
 case atStart=>exact ⟨1,by go_num,by omega,Keep.refl _⟩
 case round =>
  obtain ⟨i,rfl,hi,HK⟩:=hrel
  by_cases hlt:i<n
  ·obtain ⟨q,hq⟩:∃ q,q+1=i:=⟨i-1,by omega⟩;obtain ⟨hb,h0⟩:=sl_u16' (H.out.keep HK.out) i (by rw [HN.out];exact hlt);obtain ⟨_,h1⟩:=sl_u16' (H.out.keep HK.out) q (by rw [HN.out];omega);have hle:=HS.out q i (by omega) (by rw [HN.out];exact hlt);generalize xs[q]'(by have:=HN.out;omega)=x at h1 hle;generalize xs[i]'(by have:=HN.out;omega)=y at h0 hle;have HL:=lh (show ∀ W,Calls Tryz.prog 282 #[.int .u16 (y:Int),.int .u16 (x:Int)] W fun e w'=>e=.returned (.bool false)∧Keep W w' from fun W=>by
    have:=less16 y x W
    rwa [show decide (y<x)=false by simp;omega] at this)
   have e1:IntKind.i64.wrap ((i:Int)-1)=(q:Int):=by rw [IntWalk.i64_in _ ⟨by omega,by omega⟩];omega
   have hq2:q<n:=by omega
   have hpos:0<i:=by omega
   clear hle hq;go_wp2;refine wp_loop_rounds 1 ?_;rw [rounds_succ];go_wp2
   first|refine Zone.wp_region_all_gro (by kernel_rfl) (by kernel_rfl) ?_|refine Zone.wp_region_all (by kernel_rfl) (by kernel_rfl) ?_
   repeat
    refine Zone.wpZ_step (fun K hK=>?_);go_simp
    first
    | (refine hK _ _ ?_;clear hK K)
    | (apply Exists.intro
       refine ⟨fun p=>?_,hK _ _ ?_⟩
       ((go_at_call 282;exact Zone.zc (HL.out _)))
       clear hK K)
   refine Zone.wpZ_nil ?_;intro p;simp only [Zone.fill];go_wp2;go_roundw
   case rel=>exact ⟨i+1,by go_num,by omega,HK.out.trans (by repeat first|exact kp0|apply kp1|apply kp2|apply kp3|apply kp4)⟩
   case measure=>simp [intOf];omega
  ·go_wp2;go_end0;exact ⟨rfl,HK.out⟩
theorem partuh_any(bA off c n:Nat)(xs:List Nat)(w:World)(hn:xs.length=n)(hs:Up xs)(h:Sl w 1 u16V (some ⟨bA,off,none⟩) c xs)(hl:n≤1000000000)(h1n:1≤n) :
 Calls Tryz.prog 281 #[.slice (some ⟨bA,off,none⟩) n c,.int .i64 0,.int .i64 n] w fun e w'=>e=.returned (.bool true)∧Keep w w':=by
 have H:=lh h;have HS:=lh hs;have HN:=lh hn;clear h hs hn;go_enter Tryz.func281,Tryz.ntmps281;go_wp2;refine wp_loop_rounds 1 ?_;rw [rounds_succ];go_wp2;go_loopw [7] (fun vi wr=>∃ i:Nat,vi=.int .i64 i∧1≤i∧i≤n∧Hid (Keep w wr)) (fun vi _=>n-(intOf vi).toNat)
 case atStart=>exact ⟨1,by go_num,by omega,h1n,Keep.refl _⟩
 case round =>
  obtain ⟨i,rfl,hi,hin,HK⟩:=hrel
  by_cases hlt:i<n
  ·obtain ⟨q,hq⟩:∃ q,q+1=i:=⟨i-1,by omega⟩;obtain ⟨hb,h0⟩:=sl_u16' (H.out.keep HK.out) i (by rw [HN.out];exact hlt);obtain ⟨_,h1⟩:=sl_u16' (H.out.keep HK.out) q (by rw [HN.out];omega);have hle:=HS.out q i (by omega) (by rw [HN.out];exact hlt);generalize xs[q]'(by have:=HN.out;omega)=x at h1 hle;generalize xs[i]'(by have:=HN.out;omega)=y at h0 hle;have HL:=lh (show ∀ W,Calls Tryz.prog 282 #[.int .u16 (y:Int),.int .u16 (x:Int)] W fun e w'=>e=.returned (.bool false)∧Keep W w' from fun W=>by
    have:=less16 y x W
    rwa [show decide (y<x)=false by simp;omega] at this)
   have e1:IntKind.i64.wrap ((i:Int)-1)=(q:Int):=by rw [IntWalk.i64_in _ ⟨by omega,by omega⟩];omega
   have hq2:q<n:=by omega
   have hpos:0<i:=by omega
   clear hle hq;go_wp2
   first|refine Zone.wp_region_all_gro (by kernel_rfl) (by kernel_rfl) ?_|refine Zone.wp_region_all (by kernel_rfl) (by kernel_rfl) ?_
   repeat
    refine Zone.wpZ_step (fun K hK=>?_);go_simp
    first
    | (refine hK _ _ ?_;clear hK K)
    | (apply Exists.intro
       refine ⟨fun p=>?_,hK _ _ ?_⟩
       ((go_at_call 282;exact Zone.zc (HL.out _)))
       clear hK K)
   refine Zone.wpZ_nil ?_;intro p;simp only [Zone.fill];go_wp2;go_roundw
   case rel=>exact ⟨i+1,by go_num,by omega,by omega,HK.out.trans (by repeat first|exact kp0|apply kp1|apply kp2|apply kp3|apply kp4)⟩
   case measure=>simp [intOf];omega
  ·have hin2:i=n:=by omega
   subst hin2;go_wp2
   first|refine Zone.wp_region_all_gro (by kernel_rfl) (by kernel_rfl) ?_|refine Zone.wp_region_all (by kernel_rfl) (by kernel_rfl) ?_
   repeat
    refine Zone.wpZ_step (fun K hK=>?_);go_simp
    first
    | (refine hK _ _ ?_;clear hK K)
    | (apply Exists.intro
       refine ⟨fun p=>?_,hK _ _ ?_⟩
       (fail)
       clear hK K)
   refine Zone.wpZ_nil ?_;intro p;simp only [Zone.fill];go_wp2;go_ret;exact ⟨rfl,HK.out.trans (by repeat first|exact kp0|apply kp1|apply kp2|apply kp3|apply kp4)⟩
theorem pivuh_any(bA off c n:Nat)(xs:List Nat)(w:World)(hn:xs.length=n)(hs:Up xs)(h:Sl w 1 u16V (some ⟨bA,off,none⟩) c xs)(hl:n≤1000000000)(h8:8≤n) :
 Calls Tryz.prog 279 #[.slice (some ⟨bA,off,none⟩) n c,.int .i64 0,.int .i64 n] w fun e w'=>∃ j:Nat,e=.returned (.tuple #[.int .i64 j,.int .i64 1])∧Keep w w':=by
 have HMA:=lh (fun (W:World) (hW:Keep w W) (p:Value) (i:Nat) (hi:0<i) (hk:i+1<n)=>medadjh_any bA off c i n xs p W hn hs (h.keep hW) hi hk hl);have HM:=lh (fun (W:World) (hW:Keep w W) (p:Value) (i j k:Nat) (hij:i≤j) (hjk:j≤k) (hk:k<n)=>medh_any bA off c i j k n xs p W hn hs (h.keep hW) hij hjk hk);obtain ⟨q,hq⟩:∃ q,q=n/4:=⟨_,rfl⟩;obtain ⟨q2,hq2⟩:∃ q2,q2=q*2:=⟨_,rfl⟩;obtain ⟨q3,hq3⟩:∃ q3,q3=q*3:=⟨_,rfl⟩;have e1:(n:Int)/4=(q:Int):=by omega
 have e2:(q:Int)*2=(q2:Int):=by omega
 have e3:(q:Int)*3=(q3:Int):=by omega
 have hA:0<q∧q+1<n∧0<q2∧q2+1<n∧0<q3∧q3+1<n∧q≤q2∧q2≤q3∧q3<n:=by omega
 have HA:=lh hA;clear hn hs h hq hq2 hq3 hA;go_enter Tryz.func279,Tryz.ntmps279;go_upto_if 32 with fail;have hRB:Row (w.alloc (.cells #[.int .i64 0] 3)) w.heap.size 3 [.int .i64 0]:=row_alloc _ _ _;have hKB:Keep w (w.alloc (.cells #[.int .i64 0] 3)):=Keep.alloc (Keep.refl _) _;generalize w.alloc (.cells #[.int .i64 0] 3)=wb at hRB hKB ⊢;generalize w.heap.size=gs at hRB ⊢;have HRB:=lh hRB;have HKB:=lh hKB;clear hRB hKB
 by_cases h50:50≤n
 ·go_wp2_with (go_at_call 289;refine hold ?_);refine unhold ?_;refine (HMA.out _ HKB.out _ q HA.out.1 HA.out.2.1).mono ?_;rintro e w1 ⟨rfl,hk1⟩;have HK1:=lh hk1;clear hk1;go_wp2_with (go_at_call 289;refine hold ?_);refine unhold ?_;refine (HMA.out _ (HKB.out.trans HK1.out) _ q2 HA.out.2.2.1 HA.out.2.2.2.1).mono ?_;rintro e w2 ⟨rfl,hk2⟩;have HK2:=lh (HK1.out.trans hk2);clear hk2;go_wp2_with (go_at_call 289;refine hold ?_);refine unhold ?_;refine (HMA.out _ (HKB.out.trans HK2.out) _ q3 HA.out.2.2.2.2.1 HA.out.2.2.2.2.2.1).mono ?_;rintro e w3 ⟨rfl,hk3⟩;have HK3:=lh (HK2.out.trans hk3);clear hk3;go_wp2_with (go_at_call 290;refine hold ?_);refine unhold ?_;refine (HM.out _ (HKB.out.trans HK3.out) _ q q2 q3 HA.out.2.2.2.2.2.2.1 HA.out.2.2.2.2.2.2.2.1 HA.out.2.2.2.2.2.2.2.2).mono ?_;rintro e w4 ⟨rfl,hk4⟩;have HK4:=lh (HK3.out.trans hk4);clear hk4;have x0:=(HRB.out.keep HK4.out).cell 0 _ rfl;have hb:=(HRB.out.keep HK4.out).lt;go_wp2;exact bodyPost_ret (v:=.tuple #[.int .i64 q2,.int .i64 1]) (by simp [results,Tryz.results279,go_sem]) rfl ⟨q2,rfl,HKB.out.trans HK4.out⟩
 ·go_wp2_with (go_at_call 290;refine hold ?_);refine unhold ?_;refine (HM.out _ HKB.out _ q q2 q3 HA.out.2.2.2.2.2.2.1 HA.out.2.2.2.2.2.2.2.1 HA.out.2.2.2.2.2.2.2.2).mono ?_;rintro e w4 ⟨rfl,hk4⟩;have HK4:=lh hk4;clear hk4;have x0:=(HRB.out.keep HK4.out).cell 0 _ rfl;have hb:=(HRB.out.keep HK4.out).lt;go_wp2;exact bodyPost_ret (v:=.tuple #[.int .i64 q2,.int .i64 1]) (by simp [results,Tryz.results279,go_sem]) rfl ⟨q2,rfl,HKB.out.trans HK4.out⟩
theorem pdquh_any(bA off c n lim:Nat)(xs:List Nat)(w:World)(hn:xs.length=n)(hs:Up xs)(h:Sl w 1 u16V (some ⟨bA,off,none⟩) c xs)(hl:n≤1000000000)(hlim:12<n→0<lim) :
 Calls Tryz.prog 255 #[.slice (some ⟨bA,off,none⟩) n c,.int .i64 0,.int .i64 n,.int .i64 lim] w fun e w'=>e=.returned (.tuple #[])∧Keep w w':=by
 have HI:=lh (fun (W:World) (hW:Keep w W)=>insuh_any bA off c n xs W hn hs (h.keep hW) hl);have HP:=lh (fun (W:World) (hW:Keep w W) (h8:8≤n)=>pivuh_any bA off c n xs W hn hs (h.keep hW) hl h8);have HQ:=lh (fun (W:World) (hW:Keep w W) (h1:1≤n)=>partuh_any bA off c n xs W hn hs (h.keep hW) hl h1);clear hn hs h
 by_cases h12:n≤12
 ·clear hlim;go_enter Tryz.func255,Tryz.ntmps255;go_wp2;refine wp_loop_rounds 1 ?_;rw [rounds_succ];go_wp2_with (go_at_call 276;refine hold ?_);refine unhold ?_;refine (HI.out _ (Keep.refl _)).mono ?_;rintro e w1 ⟨rfl,hk1⟩;go_wp2;exact bodyPost_ret (v:=.tuple #[]) (by simp [results,Tryz.results255,go_sem]) rfl ⟨rfl,hk1⟩
 ·have hl0:=hlim (by omega);have e0:((lim:Int)==0)=false:=by simp;omega
  have e1:¬ (lim:Int)=0:=by omega
  clear hlim;go_enter Tryz.func255,Tryz.ntmps255;go_wp2;refine wp_loop_rounds 1 ?_;rw [rounds_succ];go_wp2_with (go_at_call 279;refine hold ?_);refine unhold ?_;refine (HP.out _ (Keep.refl _) (by omega)).mono ?_;rintro e w1 ⟨j,rfl,hk1⟩;have HK1:=lh hk1;clear hk1;go_wp2_with (go_at_call 281;refine hold ?_);refine unhold ?_;refine (HQ.out _ HK1.out (by omega)).mono ?_;rintro e w2 ⟨rfl,hk2⟩;have HK2:=lh (HK1.out.trans hk2);clear hk2;go_wp2;exact bodyPost_ret (v:=.tuple #[]) (by simp [results,Tryz.results255,go_sem]) rfl ⟨rfl,HK2.out⟩
theorem sortuh_any(A:Option Addr)(c:Nat)(xs:List Nat)(w:World)(hs:Up xs)(h:Sl w 1 u16V A c xs)(hl:xs.length≤1000000000)(hA:0<xs.length) :
 Calls Tryz.prog 213 #[.slice A xs.length c] w fun e w'=>e=.returned (.tuple #[])∧Keep w w':=by
 obtain ⟨b,off,rfl,h1,h2⟩:=sl_u16 h 0 hA;clear h1 h2;have HB:=lh (blen_any xs.length (by omega));have HP:=lh (fun (W:World) (hW:Keep w W)=>pdquh_any b off c xs.length (Lib.bitLen xs.length) xs W rfl hs (h.keep hW) hl (fun _=>bitLen_pos _ hA (by omega)));generalize xs.length=n at hl HB HP;generalize Lib.bitLen n=lim at HB HP;have e1:IntKind.u64.wrap (n:Int)=(n:Int):=by rw [IntKind.wrap_u64]<;>omega
 clear h hs hA;go_enter Tryz.func213,Tryz.ntmps213;go_wp2_with (go_at_call 159;refine hold ?_);refine unhold ?_;refine (HB.out _).mono ?_;rintro e w1 ⟨rfl,hk1⟩;have HK1:=lh hk1;clear hk1;go_wp2_with (go_at_call 255;refine hold ?_);refine unhold ?_;refine (HP.out _ HK1.out).mono ?_;rintro e w2 ⟨rfl,hk2⟩;have HK2:=lh (HK1.out.trans hk2);clear hk2;go_wp2;go_end0;exact ⟨rfl,HK2.out⟩
theorem insuh_zero(A:Option Addr)(c:Nat)(w:World):Calls Tryz.prog 276 #[.slice A 0 c,.int .i64 0,.int .i64 0] w fun e w'=>e=.returned (.tuple #[])∧Keep w w':=by
 go_enter Tryz.func276,Tryz.ntmps276;go_wp2;refine wp_loop_rounds 1 ?_;rw [rounds_succ];go_wp2;go_end0;exact ⟨rfl,Keep.refl _⟩
theorem pdquh_zero(A:Option Addr)(c lim:Nat)(w:World):Calls Tryz.prog 255 #[.slice A 0 c,.int .i64 0,.int .i64 0,.int .i64 lim] w fun e w'=>e=.returned (.tuple #[])∧Keep w w':=by
 have HI:=lh (insuh_zero A c);go_enter Tryz.func255,Tryz.ntmps255;go_wp2;refine wp_loop_rounds 1 ?_;rw [rounds_succ];go_wp2_with (go_at_call 276;refine hold ?_);refine unhold ?_;refine (HI.out _).mono ?_;rintro e w1 ⟨rfl,hk1⟩;go_wp2;exact bodyPost_ret (v:=.tuple #[]) (by simp [results,Tryz.results255,go_sem]) rfl ⟨rfl,hk1⟩
theorem sortuh_zero(A:Option Addr)(c:Nat)(w:World):Calls Tryz.prog 213 #[.slice A 0 c] w fun e w'=>e=.returned (.tuple #[])∧Keep w w':=by
 have HB:=lh (blen_any 0 (by omega));generalize Lib.bitLen 0=lim at HB;have HP:=lh (pdquh_zero A c lim);go_enter Tryz.func213,Tryz.ntmps213;go_wp2_with (go_at_call 159;refine hold ?_);refine unhold ?_;refine (HB.out _).mono ?_;rintro e w1 ⟨rfl,hk1⟩;have HK1:=lh hk1;clear hk1;go_wp2_with (go_at_call 255;refine hold ?_);refine unhold ?_;refine (HP.out _).mono ?_;rintro e w2 ⟨rfl,hk2⟩;have HK2:=lh (HK1.out.trans hk2);clear hk2;go_wp2;go_end0;exact ⟨rfl,HK2.out⟩
theorem sortuh_all(A:Option Addr)(c:Nat)(xs:List Nat)(w:World)(hs:Up xs)(h:Sl w 1 u16V A c xs)(hl:xs.length≤1000000000) :
 Calls Tryz.prog 213 #[.slice A xs.length c] w fun e w'=>e=.returned (.tuple #[])∧Keep w w':=by
 rcases Nat.eq_zero_or_pos xs.length with e|e
 ·rw [e];exact sortuh_zero A c w
 ·exact sortuh_any A c xs w hs h hl e
end Go.Proofs.YtpkocnpamcchcaaGreatDoor
namespace Go.Roa
def arrRuns(a:List Nat):Nat→Nat
 | 0=>0
 | k+1=>arrRuns a k+(if k=0∨a.getD k 0≠a.getD (k-1) 0+1 then 1 else 0)
def bump(l:List (Nat × Nat)):List (Nat × Nat) :=
 match l.getLast? with
 | none=>[]
 | some p=>l.dropLast++[(p.1,p.2+1)]
theorem bump_app(l:List (Nat × Nat))(p:Nat × Nat):bump (l++[p])=l++[(p.1,p.2+1)]:=by simp [bump]
def runsTo(a:List Nat):Nat→List (Nat × Nat)
 | 0=>[]
 | k+1=>if 0<k∧a.getD k 0=a.getD (k-1) 0+1 then bump (runsTo a k) else runsTo a k++[(a.getD k 0,0)]
theorem runsTo_last(a:List Nat):∀ k,0<k→∃ A p,runsTo a k=A++[p]∧p.1+p.2=a.getD (k-1) 0
 | 0,h=>absurd h (Nat.lt_irrefl 0)
 | k+1,_=>by
   unfold runsTo
   split
   ·rename_i h;obtain ⟨A,p,e,hp⟩:=runsTo_last a k h.1;refine ⟨A,(p.1,p.2+1),by rw [e,bump_app],?_⟩;simp only [Nat.add_sub_cancel];omega
   ·exact ⟨_,_,rfl,by simp⟩
theorem runsTo_len(a:List Nat):∀ k,(runsTo a k).length=arrRuns a k
 | 0=>rfl
 | k+1=>by
   have ih:=runsTo_len a k;unfold runsTo arrRuns
   by_cases h:0<k∧a.getD k 0=a.getD (k-1) 0+1
   ·rw [if_pos h,if_neg (by rintro (h1|h1); · omega
                            ·exact h1 h.2)]
    obtain ⟨A,p,e,_⟩:=runsTo_last a k h.1;rw [← ih,e,bump_app];simp
   ·rw [if_neg h,if_pos (by
     by_cases h0:k=0
     ·exact .inl h0
     ·exact .inr fun h1=>h ⟨by omega,h1⟩),List.length_append,ih]
    rfl
theorem runsTo_ends(a:List Nat)(B:Nat)(ha:∀ x∈a,x<B):∀ k,k≤a.length→∀ p∈runsTo a k,p.1+p.2<B
 | 0,_,p,hp=>by cases hp
 | k+1,hk,p,hp=>by
   have ih:=runsTo_ends a B ha k (by omega);have hak:a.getD k 0<B:=by
    have:a.getD k 0=a[k]:=by simp [show k<a.length by omega]
    rw [this];exact ha _ (List.getElem_mem _)
   unfold runsTo at hp
   split at hp
   ·rename_i h;obtain ⟨A,q,e,hq⟩:=runsTo_last a k h.1;rw [e,bump_app] at hp
    rcases List.mem_append.1 hp with hp|hp
    ·exact ih p (by rw [e];exact List.mem_append_left _ hp)
    ·simp only [List.mem_singleton] at hp;subst hp;simp only;omega
   ·rcases List.mem_append.1 hp with hp|hp
    ·exact ih p hp
    ·simp only [List.mem_singleton] at hp;subst hp
     simpa using hak
def orA:List Nat→List Nat→List Nat
 | [],[]=>[]
 | x :: r,[]=>x :: orA r []
 | [],y :: s=>y :: orA [] s
 | x :: r,y :: s=>if x<y then x :: orA r (y :: s) else if y<x then y :: orA (x :: r) s else x :: orA r s
termination_by a b=>a.length+b.length
theorem orA_nil:orA [] []=[]:=by simp [orA]
theorem orA_left(x:Nat)(r:List Nat):orA (x :: r) []=x :: orA r []:=by simp [orA]
theorem orA_right(y:Nat)(s:List Nat):orA [] (y :: s)=y :: orA [] s:=by simp [orA]
theorem orA_lt(x y:Nat)(r s:List Nat)(h:x<y):orA (x :: r) (y :: s)=x :: orA r (y :: s):=by rw [orA,if_pos h]
theorem orA_gt(x y:Nat)(r s:List Nat)(h:y<x):orA (x :: r) (y :: s)=y :: orA (x :: r) s:=by rw [orA,if_neg (by omega),if_pos h]
theorem orA_eq(x:Nat)(r s:List Nat):orA (x :: r) (x :: s)=x :: orA r s:=by rw [orA,if_neg (by omega),if_neg (by omega)]
theorem orA_len(a b:List Nat):(orA a b).length≤a.length+b.length:=by
 induction a,b using orA.induct with
 | case1=>simp [orA]
 | case2 x r ih=>rw [orA_left];simp at ih ⊢;omega
 | case3 y s ih=>rw [orA_right];simp at ih ⊢;omega
 | case4 x r y s h ih=>rw [orA_lt _ _ _ _ h];simp at ih ⊢;omega
 | case5 x r y s h1 h2 ih=>rw [orA_gt _ _ _ _ h2];simp at ih ⊢;omega
 | case6 x r y s h1 h2 ih =>
   have:x=y:=by omega
   subst this;rw [orA_eq];simp at ih ⊢;omega
theorem orA_all(P:Nat→Prop)(a b:List Nat)(ha:∀ x∈a,P x)(hb:∀ x∈b,P x):∀ x∈orA a b,P x:=by
 induction a,b using orA.induct with
 | case1=>simp [orA]
 | case2 x r ih =>
   rw [orA_left];intro z hz
   rcases List.mem_cons.1 hz with rfl|hz
   ·exact ha _ (by simp)
   ·exact ih (fun z h=>ha z (by simp [h])) hb z hz
 | case3 y s ih =>
   rw [orA_right];intro z hz
   rcases List.mem_cons.1 hz with rfl|hz
   ·exact hb _ (by simp)
   ·exact ih ha (fun z h=>hb z (by simp [h])) z hz
 | case4 x r y s h ih =>
   rw [orA_lt _ _ _ _ h];intro z hz
   rcases List.mem_cons.1 hz with rfl|hz
   ·exact ha _ (by simp)
   ·exact ih (fun z h=>ha z (by simp [h])) hb z hz
 | case5 x r y s h1 h2 ih =>
   rw [orA_gt _ _ _ _ h2];intro z hz
   rcases List.mem_cons.1 hz with rfl|hz
   ·exact hb _ (by simp)
   ·exact ih ha (fun z h=>hb z (by simp [h])) z hz
 | case6 x r y s h1 h2 ih =>
   have:x=y:=by omega
   subst this;rw [orA_eq];intro z hz
   rcases List.mem_cons.1 hz with rfl|hz
   ·exact ha _ (by simp)
   ·exact ih (fun z h=>ha z (by simp [h])) (fun z h=>hb z (by simp [h])) z hz
def rowE(r:List (Nat × Nat)):List Nat:=r.flatMap fun p=>[p.1,p.1+p.2+1]
theorem rowE_len:∀ r:List (Nat × Nat),(rowE r).length=2*r.length
 | []=>rfl
 | p :: r=>by
   have:=rowE_len r;simp only [rowE,List.flatMap_cons,List.length_append,List.length_cons,List.length_nil] at this ⊢;omega
def skipF(a:List Nat)(at_:Nat):Nat→Nat→Nat
 | 0,i=>i
 | f+1,i=>if i<a.length∧a.getD i 0≤at_ then skipF a at_ f (i+1) else i
theorem skipF_ge(a:List Nat)(at_:Nat):∀ f i,i≤skipF a at_ f i
 | 0,i=>Nat.le_refl _
 | f+1,i=>by
   unfold skipF
   split
   ·have:=skipF_ge a at_ f (i+1);omega
   ·exact Nat.le_refl _
theorem skipF_le(a:List Nat)(at_:Nat):∀ f i,i≤a.length→skipF a at_ f i≤a.length
 | 0,i,h=>h
 | f+1,i,h=>by
   unfold skipF
   split
   ·rename_i hc;exact skipF_le a at_ f (i+1) (by omega)
   ·exact h
theorem skipF_gt(a:List Nat)(at_:Nat):∀ f i,i≤a.length→a.length≤i+f→skipF a at_ f i<a.length→at_<a.getD (skipF a at_ f i) 0
 | 0,i,h,h2,h3=>by unfold skipF at h3;omega
 | f+1,i,h,h2,h3=>by
   unfold skipF at h3 ⊢
   split at h3<;>rename_i hc
   ·rw [if_pos hc];exact skipF_gt a at_ f (i+1) (by omega) (by omega) h3
   ·rw [if_neg hc];have:¬ a.getD i 0≤at_:=fun h4=>hc ⟨h3,h4⟩;omega
def nextE(a b:List Nat)(i k:Nat):Nat:=min (if i<a.length then a.getD i 0 else 65537) (if k<b.length then b.getD k 0 else 65537)
def edgesF(g:Bool→Bool→Bool)(a b:List Nat):Nat→Nat→Nat→Bool→Nat→List (Nat × Nat)→List (Nat × Nat)
 | 0,_,_,_,_,r=>r
 | f+1,i,k,on,lo,r =>
   if i<a.length∨k<b.length then
    let at_:=nextE a b i k
    let i':=skipF a at_ (a.length-i) i
    let k':=skipF b at_ (b.length-k) k
    let now:=g (i'%2==1) (k'%2==1)
    if now=on then edgesF g a b f i' k' on lo r
    else edgesF g a b f i' k' now at_ (if on then r++[(lo,at_-lo-1)] else r)
   else r
def edges(g:Bool→Bool→Bool)(a b:List Nat):List (Nat × Nat):=edgesF g a b (a.length+b.length) 0 0 false 0 []
theorem nextE_mem{a b:List Nat}{B:Nat}(ha:∀ x∈a,x≤B)(hb:∀ x∈b,x≤B){i k:Nat}(h:i<a.length∨k<b.length)(hB:B≤65536):nextE a b i k≤B:=by
 unfold nextE
 rcases h with h|h
 ·have:a.getD i 0≤B:=by
   have e:a.getD i 0=a[i]:=by simp [h]
   rw [e];exact ha _ (List.getElem_mem _)
  rw [if_pos h];omega
 ·have:b.getD k 0≤B:=by
   have e:b.getD k 0=b[k]:=by simp [h]
   rw [e];exact hb _ (List.getElem_mem _)
  rw [if_pos h];omega
theorem edge_step{a b:List Nat}{B:Nat}(ha:∀ x∈a,x≤B)(hb:∀ x∈b,x≤B)(hB:B≤65536){i k:Nat}(hi:i≤a.length)(hk:k≤b.length)(h:i<a.length∨k<b.length) :
 i≤skipF a (nextE a b i k) (a.length-i) i∧skipF a (nextE a b i k) (a.length-i) i≤a.length∧k≤skipF b (nextE a b i k) (b.length-k) k∧skipF b (nextE a b i k) (b.length-k) k≤b.length∧i+k<skipF a (nextE a b i k) (a.length-i) i+skipF b (nextE a b i k) (b.length-k) k:=by
 have h1:=skipF_ge a (nextE a b i k) (a.length-i) i;have h2:=skipF_le a (nextE a b i k) (a.length-i) i hi;have h3:=skipF_ge b (nextE a b i k) (b.length-k) k;have h4:=skipF_le b (nextE a b i k) (b.length-k) k hk;refine ⟨h1,h2,h3,h4,?_⟩;have g1:=skipF_gt a (nextE a b i k) (a.length-i) i hi (by omega);have g2:=skipF_gt b (nextE a b i k) (b.length-k) k hk (by omega);generalize skipF a (nextE a b i k) (a.length-i) i=i' at *;generalize skipF b (nextE a b i k) (b.length-k) k=k' at *
 by_cases e1:i'=i
 ·by_cases e2:k'=k
  ·subst e1;subst e2
   exfalso
   unfold nextE at g1 g2
   rcases h with h|h
   ·have q1:=g1 h;rw [if_pos h] at q1 g2
    by_cases hk':k'<b.length
    ·have q2:=g2 hk';rw [if_pos hk'] at q1 q2;omega
    ·rw [if_neg hk'] at q1;have:a.getD i' 0≤B:=by
         have e:a.getD i' 0=a[i']:=by simp [h]
         rw [e];exact ha _ (List.getElem_mem _)
     omega
   ·have q2:=g2 h;rw [if_pos h] at q2 g1
    by_cases hi':i'<a.length
    ·have q1:=g1 hi';rw [if_pos hi'] at q1 q2;omega
    ·rw [if_neg hi'] at q2;have:b.getD k' 0≤B:=by
         have e:b.getD k' 0=b[k']:=by simp [h]
         rw [e];exact hb _ (List.getElem_mem _)
     omega
  ·omega
 ·omega
theorem edge_more{a b:List Nat}{i k:Nat}(hi:i≤a.length)(hk:k≤b.length){B:Nat}(hat:nextE a b i k≤B)(hB:B≤65536):nextE a b i k<nextE a b (skipF a (nextE a b i k) (a.length-i) i) (skipF b (nextE a b i k) (b.length-k) k):=by
 have g1:=skipF_gt a (nextE a b i k) (a.length-i) i hi (by omega);have g2:=skipF_gt b (nextE a b i k) (b.length-k) k hk (by omega);generalize nextE a b i k=t at *;generalize skipF a t (a.length-i) i=i' at *;generalize skipF b t (b.length-k) k=k' at *;unfold nextE
 by_cases h1:i'<a.length
 ·rw [if_pos h1];have:=g1 h1
  by_cases h2:k'<b.length
  ·rw [if_pos h2];have:=g2 h2;omega
  ·rw [if_neg h2];omega
 ·rw [if_neg h1]
  by_cases h2:k'<b.length
  ·rw [if_pos h2];have:=g2 h2;omega
  ·rw [if_neg h2];omega
theorem edgesF_ok(g:Bool→Bool→Bool){a b:List Nat}{B:Nat}(ha:∀ x∈a,x≤B)(hb:∀ x∈b,x≤B)(hB:B≤65536):∀ (f i k:Nat) (on:Bool) (lo:Nat) (r:List (Nat × Nat)),i≤a.length→k≤b.length→(on=true→(i<a.length∨k<b.length)→lo<nextE a b i k)→(∀ p∈r,p.1+p.2+1≤B) →
 (∀ p∈edgesF g a b f i k on lo r,p.1+p.2+1≤B)∧2*(edgesF g a b f i k on lo r).length≤2*r.length+(a.length-i)+(b.length-k)+(if on then 1 else 0)
 | 0,i,k,on,lo,r,_,_,_,hr=>⟨hr,by simp only [edgesF];omega⟩
 | f+1,i,k,on,lo,r,hi,hk,hlo,hr=>by
   unfold edgesF
   by_cases h:i<a.length∨k<b.length
   ·rw [if_pos h];simp only [];have hat:=nextE_mem ha hb h hB;obtain ⟨s1,s2,s3,s4,s5⟩:=edge_step ha hb hB hi hk h;have hm:=edge_more hi hk hat hB;have hl:=fun e=>hlo e h;generalize hat':nextE a b i k=t at *;generalize skipF a t (a.length-i) i=i' at *;generalize skipF b t (b.length-k) k=k' at *
    by_cases hn:g (i'%2==1) (k'%2==1)=on
    ·rw [if_pos hn];have:=edgesF_ok g ha hb hB f i' k' on lo r s2 s4 (fun e _=>Nat.lt_trans (hl e) hm) hr;refine ⟨this.1,Nat.le_trans this.2 (by omega)⟩
    ·rw [if_neg hn]
     cases on with
     | true =>
       have hnow:g (i'%2==1) (k'%2==1)=false:=by simpa using hn
       rw [hnow];have:=edgesF_ok g ha hb hB f i' k' false t (r++[(lo,t-lo-1)]) s2 s4 (fun e=>by cases e) (fun p hp=>by
        rcases List.mem_append.1 hp with hp|hp
        ·exact hr p hp
        ·simp only [List.mem_singleton] at hp;subst hp;have:=hl rfl;simp only;omega)
       simp only [if_true,Bool.false_eq_true,if_false,List.length_append,List.length_cons,List.length_nil] at this ⊢;refine ⟨this.1,Nat.le_trans this.2 (by omega)⟩
     | false =>
       have hnow:g (i'%2==1) (k'%2==1)=true:=by simpa using hn
       rw [hnow];have:=edgesF_ok g ha hb hB f i' k' true t r s2 s4 (fun _ _=>hm) hr;simp only [if_true,Bool.false_eq_true,if_false] at this ⊢;refine ⟨this.1,Nat.le_trans this.2 (by omega)⟩
   ·rw [if_neg h];exact ⟨hr,by omega⟩
theorem edges_ok(g:Bool→Bool→Bool){r s:List (Nat × Nat)}{B:Nat}(hr:∀ p∈r,p.1+p.2+1≤B)(hs:∀ p∈s,p.1+p.2+1≤B)(hB:B≤65536):(∀ p∈edges g (rowE r) (rowE s),p.1+p.2+1≤B)∧(edges g (rowE r) (rowE s)).length≤r.length+s.length:=by
 have hm:∀ (l:List (Nat × Nat)),(∀ p∈l,p.1+p.2+1≤B)→∀ x∈rowE l,x≤B:=fun l h x hx=>by
  obtain ⟨p,hp,hx⟩:=List.mem_flatMap.1 hx;have:=h p hp;simp only [List.mem_cons,List.not_mem_nil,or_false] at hx;omega
 have:=edgesF_ok g (hm r hr) (hm s hs) hB ((rowE r).length+(rowE s).length) 0 0 false 0 [] (Nat.zero_le _) (Nat.zero_le _) (fun e=>by cases e) (fun p hp=>by cases hp);rw [rowE_len,rowE_len] at this;simp only [List.length_nil,Nat.sub_zero,Bool.false_eq_true,if_false] at this;refine ⟨by unfold edges;rw [rowE_len,rowE_len];exact this.1,?_⟩;unfold edges;rw [rowE_len,rowE_len];omega
end Go.Roa
