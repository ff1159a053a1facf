/- Parts of the proof. -/
import Derived.Lib.ConvBytes
import Derived.Test.YtpkocnpamcchcaaGreatDoorJ48
set_option maxRecDepth 100000
set_option maxHeartbeats 4000000
set_option linter.unusedSimpArgs false
set_option linter.unusedVariables false
set_option linter.unnecessarySimpa false
namespace Go.Proofs.YtpkocnpamcchcaaGreatDoor
open Go.RowKit Go.Zone Go.Shelf
attribute [local go_sem] zone stepZ fill lookFs goes goesUpon dropFs cell_gro frozen_gro size_gro lt_add drew_gro tape_gro keep_refl
attribute [local go_sem] lt_add2 lt_add3 lt_add4 lt_add5 lt_add6 lt_add7 lt_add8 lt_add9 lt_add10 lt_add11 lt_add12
attribute [local go_sem high] run_eq_val run_ne_val run_eqG_val
theorem little_any(n sz:Nat)(hn:n<18446744073709551616)(hsz:sz≤8)(w:World) :
 Calls Tryz.prog 15 #[.int .u64 n,.int .i64 sz] w fun e w'=>∃ v,e=.returned v∧OwnB w' w.heap.size v (le n sz)∧Keep w w':=by
 go_enter Tryz.func15,Tryz.ntmps15;go_wp2;go_loopw [6,0,5] (fun vi vn vb wr=>∃ (k m:Nat) (o:Value),k≤sz∧m<18446744073709551616∧vi=.int .i64 k∧o=vb∧Hid (OwnB wr w.heap.size o (le n k))∧vn=.int .u64 m∧Hid (m=n/256^k)∧Hid (Keep w wr)∧w.heap.size≤wr.heap.size) (fun vi _ _ _=>sz-(intOf vi).toNat)
 case atStart=>exact ⟨0,n,_,by omega,hn,rfl,rfl,Own.nil_ _ _ _ _ _,rfl,(by show _=_;simp),(by repeat first|exact kp0|apply kp1|apply kp2|apply kp3|apply kp4),Nat.le_refl _⟩
 case round =>
  obtain ⟨k,m,o,hk,hm,rfl,rfl,HO2,rfl,HM,HK2,hz⟩:=hrel
  by_cases hlt:k<sz
  ·have hw8:IntKind.u8.wrap ((m:Int)%256)=(m:Int)%256:=by simp [IntKind.wrap,IntKind.signed,IntKind.bits]
   go_wp2_with (at_builtin;refine hold ?_);refine unhold ?_;have HO3:OwnB (wr.alloc (.cells #[.int .u8 ((m:Int)%256)] 5)) w.heap.size o (le n k):=HO2.out.keep (Keep.alloc (Keep.refl _) _);refine wpList_app elt_u8 b8_len b8_one rfl (.tmp 12) (.tmp 16) rfl (ys:=[UInt8.ofNat m]) HO3 rfl rfl (sl_one _ (by omega) (by omega) (b8_at _ (by rw [u8_nat];simp [go_sem]))) (by simp [le_len];omega) (by simp;omega) ?_;intro v1 w2 hown2 hg2 _;have ⟨a1,a2,a3⟩:=HO3.after hg2 (HK2.out.trans (by repeat first|exact kp0|apply kp1|apply kp2|apply kp3|apply kp4)) (Nat.le_refl _);have HO4:=lh hown2;have HA1:=lh a1;clear hown2 hg2 HO3 a3 hw8;have hm2:m/256<18446744073709551616:=by omega
   go_wp2;go_roundw
   case rel=>exact ⟨k+1,m/256,_,by omega,hm2,by go_num,rfl,(by show OwnB _ _ _ _;have:=HO4.out;rw [HM.out] at this;exact this),by go_num,(by show _=_;rw [HM.out,Nat.div_div_eq_div_mul,Nat.pow_succ]),HA1.out,by simp at a2;omega⟩
   case measure=>simp [intOf];omega
  ·have hks:k=sz:=by omega
   subst hks;go_wp2;go_ret;exact ⟨_,rfl,HO2.out,HK2.out⟩
theorem short01_any(n:Nat)(hn:n<18446744073709551616)(w:World) :
 Calls Tryz.prog 54 #[.int .u64 n] w fun e w'=>∃ v,e=.returned v∧OwnB w' w.heap.size v (vu 9 n)∧Keep w w':=by
 go_enter Tryz.func54,Tryz.ntmps54;go_wp2;go_loopw [0,3] (fun vn vb wr=>∃ (f m:Nat) (o:Value) (p:List UInt8),m<18446744073709551616∧o=vb∧vn=.int .u64 m∧Hid (OwnB wr w.heap.size o p)∧Hid (p++vu f m=vu 9 n)∧p.length+f=9∧Hid (m<128^(f+1))∧Hid (Keep w wr)∧w.heap.size≤wr.heap.size) (fun vn _ _=>(intOf vn).toNat)
 case atStart=>exact ⟨9,n,_,[],hn,rfl,rfl,Own.nil_ _ _ _ _ _,rfl,rfl,(by show _<_;omega),(by repeat first|exact kp0|apply kp1|apply kp2|apply kp3|apply kp4),Nat.le_refl _⟩
 case round =>
  obtain ⟨f,m,o,p,hm,rfl,rfl,HO2,HP,hpl,HM,HK2,hz⟩:=hrel
  by_cases hgt:128≤(m:Int)
  ·obtain ⟨f',rfl⟩:∃ f',f=f'+1:=⟨f-1,by
    rcases f with _|f
    ·have:=HM.out;omega
    ·rfl⟩
   have HP2:Hid ((p++[UInt8.ofNat (m%128+128)])++vu f' (m/128)=vu 9 n):=by
    show _=_;rw [← HP.out,vu,if_pos (by omega),List.append_assoc];rfl
   have HM2:Hid (m/128<128^(f'+1)):=by
    show _<_;have:=HM.out;rw [Nat.pow_succ] at this;exact Nat.div_lt_of_lt_mul (by rw [Nat.mul_comm];exact this)
   have hw8:IntKind.u8.wrap ((m:Int)%128+128)=(m:Int)%128+128:=by simp [IntKind.wrap,IntKind.signed,IntKind.bits];omega
   go_wp2_with (at_builtin;refine hold ?_);refine unhold ?_;have HO3:OwnB (wr.alloc (.cells #[.int .u8 ((m:Int)%128+128)] 5)) w.heap.size o p:=HO2.out.keep (Keep.alloc (Keep.refl _) _);refine wpList_app elt_u8 b8_len b8_one rfl (.tmp 6) (.tmp 11) rfl (ys:=[UInt8.ofNat (m%128+128)]) HO3 rfl rfl (sl_one _ (by omega) (by omega) (b8_at _ (by rw [u8_nat,show (((m%128+128:Nat):Int)%256)=(m:Int)%128+128 by omega];simp [go_sem]))) (by simp;omega) (by simp;omega) ?_;intro v1 w2 hown2 hg2 _;have ⟨a1,a2,a3⟩:=HO3.after hg2 (HK2.out.trans (by repeat first|exact kp0|apply kp1|apply kp2|apply kp3|apply kp4)) (Nat.le_refl _);have HO4:=lh hown2;have HA1:=lh a1;clear hown2 hg2 HO3 a3 hw8;have hm2:m/128<18446744073709551616:=by omega
   go_wp2;go_roundw
   case rel=>exact ⟨f',m/128,_,_,hm2,rfl,by go_num,HO4,HP2,by simp;omega,HM2,HA1.out,by simp at a2;omega⟩
   case measure=>simp [intOf];omega
  ·have HP2:Hid (p++[UInt8.ofNat m]=vu 9 n):=by
    show _=_;rw [← HP.out]
    cases f
    ·rfl
    ·rw [vu,if_neg (by omega)]
   have hw8:IntKind.u8.wrap (m:Int)=(m:Int):=by simp [IntKind.wrap,IntKind.signed,IntKind.bits];omega
   go_wp2_with (at_builtin;refine hold ?_);refine unhold ?_;have HO3:OwnB (wr.alloc (.cells #[.int .u8 (m:Int)] 5)) w.heap.size o p:=HO2.out.keep (Keep.alloc (Keep.refl _) _);refine wpList_app elt_u8 b8_len b8_one rfl (.tmp 15) (.tmp 18) rfl (ys:=[UInt8.ofNat m]) HO3 rfl rfl (sl_one _ (by omega) (by omega) (b8_at _ (by rw [u8_nat,show (m:Int)%256=m by omega];simp [go_sem]))) (by simp;omega) (by simp;omega) ?_;intro v1 w2 hown2 hg2 _;have ⟨a1,a2,a3⟩:=HO3.after hg2 (HK2.out.trans (by repeat first|exact kp0|apply kp1|apply kp2|apply kp3|apply kp4)) (Nat.le_refl _);have HO4:=lh hown2;have HA1:=lh a1;clear hown2 hg2 HO3 a3;go_wp2;go_ret;exact ⟨_,rfl,(by have:=HO4.out;rw [HP2.out] at this;exact this),HA1.out⟩
theorem bytes_of(s:ByteArray)(w:World)(hs:s.size≤140737488355328):∃ u W,(convert 9 31 (.string s)).run Tryz.prog w=.ok u W∧(∃ A c,u=.slice A s.data.toList.length c∧SlB W A c s.data.toList)∧Keep w W:=by
 have hle:s.data.toList.length=s.size:=by show s.data.toList.length=s.data.size;simp
 refine ⟨_,_,Lib.run_convert_string_bytes w 9 31 5 s Tryz.underlying9 Tryz.underlying31 Tryz.underlying5,⟨some ⟨w.heap.size,0,none⟩,grownCap w s.size 0 5,by rw [hle],?_⟩,?_⟩
 ·refine ⟨by rw [hle];exact grownCap_ge _ _ _ _,?_,by rw [hle];omega,fun i hi=>⟨w.heap.size,0,rfl,fun j u hu=>?_⟩⟩
  ·have:=grownCap_le_maxLen w s.size 0 5 (by unfold maxLen;omega);unfold maxLen at this;omega
  ·match j,hu with
   | 0,hu =>
     cases hu
     have:=Lib.bytesWorld_cell w 5 s i (by omega);rw [show 0+i*1+0=i by omega,this];have hg:s.data.toList.getD i 0=s.data.toList[i]:=by rw [List.getD_eq_getElem?_getD,List.getElem?_eq_getElem hi];rfl
     rw [hg]
 ·exact ⟨rfl,rfl,rfl,by rw [Lib.bytesWorld_size];omega,fun k hk=>Lib.bytesWorld_at_old w _ s k hk⟩
theorem rvb_any(v:Val)(w:World)(hv:(v.s.size:Int)≤1000000000000):Calls Tryz.prog 25 #[v.v] w fun e w'=>∃ u,e=.returned u∧OwnB w' w.heap.size u (vB v)∧Keep w w':=by
 obtain ⟨k0,n0,s0⟩:=v;simp only at hv
 cases h1:(k0==1)
 ·cases h2:(k0==2)
  ·have HV:Hid (vB ⟨k0,n0,s0⟩=[]):=by show _=_;simp [vB,h1,h2]
   go_enter Tryz.func25,Tryz.ntmps25;go_wp2;go_ret;exact ⟨_,rfl,by rw [HV.out];exact Own.nil_ _ _ _ _ _,(by repeat first|exact kp0|apply kp1|apply kp2|apply kp3|apply kp4)⟩
  ·have HV:Hid (vB ⟨k0,n0,s0⟩=vu 9 s0.size++s0.data.toList):=by show _=_;simp [vB,h1,h2]
   have hws:IntKind.u64.wrap (s0.size:Int)=(s0.size:Int):=by rw [u64_eq];unfold u64;omega
   have hcv:=fun p:GB=>bytes_of s0 ((w.alloc (.cells #[.int .u8 k0,.int .i64 n0,.string s0] 72)).gro p) (by omega);have HCV:=lh hcv;have hlv:=vu_len 9 s0.size;have hle:s0.data.toList.length=s0.size:=by show s0.data.toList.length=s0.data.size;simp
   have HLE:=lh hle;clear hcv hle;go_enter Tryz.func25,Tryz.ntmps25;go_wp2
   first|refine Zone.wp_region_gro 8 (by kernel_rfl) (by kernel_rfl) ?_|refine Zone.wp_region 8 (by kernel_rfl) (by kernel_rfl) ?_
   simp only [List.take_succ_cons,List.take_zero,List.drop_succ_cons,List.drop_zero]
   iterate 4
    refine Zone.wpZ_step (fun K hK=>?_);go_simp
    (refine hK _ _ ?_;clear hK K)
   refine Zone.wpZ_free 17 (fun u W=>OwnB W (w.heap.size+1) u (vu 9 s0.size)) rfl (fun _ _ _ hk h=>Own.keep h hk) ?_ ?_
   ·intro p;rw [Zone.lookFs_nil (by rfl)];simp only [Zone.fill];go_simp;go_at_call 54;refine (short01_any s0.size (by omega) _).mono ?_;rintro e w1 ⟨u,rfl,hown,hk⟩;exact ⟨u,rfl,hown.base_mono (by simp [size_gro]),hk⟩
   refine Zone.wpZ_step (fun K hK=>?_);unfold Zone.zone Zone.stepZ;rw [Zone.lookFs_nil (by rfl)];go_simp
   (refine hK _ _ ?_;clear hK K)
   refine Zone.wpZ_step (fun K hK=>?_);unfold Zone.zone Zone.stepZ;rw [Zone.lookFs_nil (by rfl)];go_simp
   (refine hK _ _ ?_;clear hK K)
   refine Zone.wpZ_free 20 (fun u W=>∃ A c,u=.slice A s0.data.toList.length c∧SlB W A c s0.data.toList) rfl (fun _ _ _ hk ⟨A,c,h1,h2⟩=>⟨A,c,h1,h2.keep hk⟩) ?_ ?_
   ·intro p;rw [Zone.lookFs_nil (by rfl)];simp only [Zone.fill];obtain ⟨u,W,hrun,hu,hk⟩:=HCV.out p;have HU:=lh hu;have HK:=lh hk;clear hu hk;go_simp;exact ⟨HU.out,HK.out⟩
   refine Zone.wpZ_nil ?_;intro p;simp only [Zone.fill];rintro u20 ⟨A20,c20,rfl,hsl⟩ u17 h17;have HS:=lh hsl;have HU:=lh h17;clear hsl h17;refine wpList_app elt_u8 b8_len b8_one rfl (.tmp 17) (.tmp 20) rfl (ys:=s0.data.toList) HU.out rfl rfl HS.out (by have:=HLE.out;omega) (by simp [size_gro]) ?_;intro v1 w2 hown2 hg2 _;have ⟨a1,a2,a3⟩:=HU.out.after (w:=w) hg2 (by repeat first|exact kp0|apply kp1|apply kp2|apply kp3|apply kp4) (Nat.le_succ _);have HO4:=lh hown2;have HA1:=lh a1;clear hown2 hg2 a3 a2;go_wp2;go_ret;exact ⟨_,rfl,(by have:=HO4.out;rw [← HV.out] at this;exact Own.base_mono this (by omega)),HA1.out⟩
 ·have HV:Hid (vB ⟨k0,n0,s0⟩=le (u64 n0) 8):=by show _=_;simp [vB,h1]
  have HU:=u64_eq n0;have HL:=u64_lt n0;go_enter Tryz.func25,Tryz.ntmps25;go_wp2_with (go_at_call 15;refine hold ?_);refine unhold ?_;refine (little_any (u64 n0) 8 HL (by omega) _).mono ?_;rintro e w1 ⟨u,rfl,hown,hk⟩;go_wp2;go_ret;exact ⟨_,rfl,by rw [HV.out];exact hown.base_mono (by simp),Keep.trans (Keep.alloc (Keep.refl _) _) hk⟩
end Go.Proofs.YtpkocnpamcchcaaGreatDoor
namespace Go.Proofs.YtpkocnpamcchcaaGreatDoor
open Go.RowKit Go.Zone Go.Shelf
attribute [local go_sem] zone stepZ fill lookFs goes goesUpon dropFs cell_gro frozen_gro size_gro lt_add drew_gro tape_gro keep_refl
attribute [local go_sem] lt_add2 lt_add3 lt_add4 lt_add5 lt_add6 lt_add7 lt_add8 lt_add9 lt_add10 lt_add11 lt_add12
def txT(D:List Val)(k:Nat):Nat:=((D.take k).map fun x=>(vB x).length).sum
theorem txT_succ(D:List Val)(k:Nat)(h:k<D.length):txT D (k+1)=txT D k+(vB D[k]).length:=by
 unfold txT;rw [List.take_succ_eq_append_getElem h,List.map_append,List.sum_append];simp
theorem txT_all(D:List Val):txT D D.length=txV D:=by
 unfold txT txV;rw [List.take_length]
theorem txT_le(D:List Val)(h:∀ x∈D,x.s.size≤65535):∀ k,txT D k≤k*65545
 | 0=>by simp [txT]
 | k+1=>by
   have ih:=txT_le D h k
   by_cases hk:k<D.length
   ·rw [txT_succ D k hk];have h1:=vB_len D[k];have h2:=h _ (List.getElem_mem hk);omega
   ·have:txT D (k+1)=txT D k:=by
     unfold txT;rw [List.take_of_length_le (by omega),List.take_of_length_le (by omega)]
    omega
theorem many_take(cs:List Col)(rows:List (List Val))(i:Nat)(h:i<cs.length):(manyL cs rows).take (i+1)=(manyL cs rows).take i++[(manyF cs rows i:Int)]:=by
 have hl:i<(manyL cs rows).length:=by simp [manyL];exact h
 rw [List.take_succ_eq_append_getElem hl];simp [manyL]
theorem many_len(cs:List Col)(rows:List (List Val))(i:Nat)(h:i≤cs.length):((manyL cs rows).take i).length=i:=by
 rw [List.length_take];simp [manyL];omega
theorem kind_dim{cs:List Col}{i:Nat}(h:i<cs.length):dimP cs (i:Int)=(cs[i].kind==1||cs[i].kind==2):=by
 unfold dimP;simp only [List.getElem?_eq_getElem h]
theorem bErr_zero{cs:List Col}{c:Cfg}{rows:List (List Val)}(h:bErr cs c rows=0):Fits cs c∧tErr cs rows=0:=by
 unfold bErr at h
 split at h
 ·rename_i hq;refine ⟨?_,h⟩
  by_cases hf:Fits cs c
  ·exact hf
  ·rw [pB_no hf] at hq;cases hq
 ·cases h
theorem fits_law(A B:Option Addr)(n m:Nat)(cs:List Col)(c:Cfg)(rows:List Rw)(w:World)(h:Sl w 2 Col.cells A n cs)(hz:∀ x∈cs,x.name.size≤140737488355328)(hc:CfgAt w c)(hiA:∀ bb off,c.iA=some ⟨bb,off,none⟩→bb<w.heap.size)(hrA:∀ bb off,c.rA=some ⟨bb,off,none⟩→bb<w.heap.size)
 (hr:Sl w 1 Rw.cells B m rows) (hra:RowsAt w rows) (hwf:∀ r∈rows,∀ x∈r.vs,WfV x) (htab:TabP w) (htb:Tab w) :
 Calls Tryz.prog 5 #[.slice A cs.length n,c.v,.slice B rows.length m] w fun e w'=>e=.returned (.bool true)∧Keep w w':=by
 have HG:=lh (fun W (hW:Keep w W)=>great22_any A B n m cs c rows W (h.keep hW) hz (hc.keep hW) (hr.keep hW) (hra.keep hW));have HKN:=lh (fun W (hW:Keep w W)=>known22_any W (htab.keep hW) (htb.keep hW));have HNO:=lh (fun he W (hW:Keep w W)=>build_no cs c A B n m rows W (h.keep hW) hz (hc.keep hW) (hr.keep hW) (hra.keep hW) he);have HBU:=lh (fun hf hrl hrs he hS W (hW:Keep w W)=>build_any cs c A B n m rows W (h.keep hW) hf (hc.keep hW) (fun bb off e=>Nat.lt_of_lt_of_le (hiA bb off e) hW.size) (fun bb off e=>Nat.lt_of_lt_of_le (hrA bb off e) hW.size) (hr.keep hW) (hra.keep hW) hrl hrs he (htab.keep hW) (htb.keep hW) hS);have HBD:=lh (fun (many:List Int) (texts:Int) W (hW:Keep w W) Bm mm hm=>bound_any A Bm n mm cs c rows.length texts many W (h.keep hW) hz (hc.keep hW) hm);have HSE:=lh (fun hf he hrl S hS=>sorted_secs (cs:=cs) (c:=c) (rows:=rows.map (·.vs)) (S:=S) hf he hrl hS);have HBO:=lh (fun hf he hrl S hS=>bound_sorted (cs:=cs) (c:=c) (rows:=rows.map (·.vs)) (S:=S) hf he hrl hS);have HBZ:=lh (bErr_zero (cs:=cs) (c:=c) (rows:=rows.map (·.vs)));have HL:=lh h;have HR:=lh hr;have HRA:=lh hra;have HWF:=lh hwf;have hl:=sl_len h;have hrl:=sl_len hr;have hcase:bErr cs c (rows.map (·.vs))=0∨(bErr cs c (rows.map (·.vs))≠0∧(bErr cs c (rows.map (·.vs))=2∨bErr cs c (rows.map (·.vs))=3∨bErr cs c (rows.map (·.vs))=9)):=by
  have:=tErr_any cs (rows.map (·.vs));unfold bErr
  split
  ·rcases this with h|h|h|h<;>simp [h]
  ·simp
 have HCA:=lh hcase;clear hcase h hz hc hiA hrA hr hra hwf htab htb;obtain ⟨s0,iA,ic,iv,rA,rc,rv,sA,sc,sp,lf⟩:=c;simp only [Cfg.v] at HG HNO HBU HBD HSE HBO HBZ HCA ⊢;go_enter Tryz.func5,Tryz.ntmps5;go_upto_region 1 with fail;have hB:BoxA w (w.alloc (.cells #[.int .i64 s0,.slice iA iv.length ic,.slice rA rv.length rc,.slice sA sp.length sc,.int .i64 lf] 26)) [.int .i64 s0,.slice iA iv.length ic,.slice rA rv.length rc,.slice sA sp.length sc,.int .i64 lf]:=BoxA.start (t:=26) (Keep.refl _);generalize hwb:World.alloc w _=wb at hB ⊢;have hbs:=hB.lt;have x0:=hB.at_ 0 _ rfl;have x1:=hB.at_ 1 _ rfl;have x2:=hB.at_ 2 _ rfl;have x3:=hB.at_ 3 _ rfl;have x4:=hB.at_ 4 _ rfl;have HKB:=lh hB.keep;have HX0:=lh x0;have HX1:=lh x1;have HX2:=lh x2;have HX3:=lh x3;have HX4:=lh x4;clear hwb hB;generalize w.heap.size=g0 at hbs x0 x1 x2 x3 x4 HX0 HX1 HX2 HX3 HX4 ⊢;have HBS:=lh hbs;go_wp2_with (go_at_call 6;refine hold ?_);refine unhold ?_;refine (HG.out _ HKB.out).mono ?_;rintro e w1 ⟨⟨b,rfl,hb⟩,hk1⟩;have HK1:=lh hk1;have HGB:=lh hb;clear x0 x1 x2 x3 x4 hk1 HG hb
 cases b
 ·have hgb:=HGB.out rfl;have hr60:rows.length≤60:=by omega
  have HR3:=lh hgb.2;clear hgb HGB;have x0:=box_cell HK1.out HBS.out HX0.out;have x1:=box_cell HK1.out HBS.out HX1.out;have x2:=box_cell HK1.out HBS.out HX2.out;have x3:=box_cell HK1.out HBS.out HX3.out;have x4:=box_cell HK1.out HBS.out HX4.out;have hgw:g0<w1.heap.size:=block_lt_of_cell x0
  rcases HCA.out with hz0 | ⟨hz0,hz1⟩
  ·obtain ⟨hf,he⟩:=HBZ.out hz0;have HF:=lh hf;have HE:=lh he;clear hz0 hf he HNO HBZ HCA;go_wp2_with (go_at_call 9;refine hold ?_);refine unhold ?_;refine (HBU.out HF.out (by omega) (fun r hr=>by have:=HR3.out r hr;omega) HE.out (fun S hS=>HSE.out HF.out HE.out (by rw [List.length_map];omega) S hS) _ (HKB.out.trans HK1.out)).mono ?_;rintro e w2 ⟨v,S,rfl,hnb,hsp,hov,hk2⟩;have hbo:=HBO.out HF.out HE.out (by rw [List.length_map];omega) S hnb;have him:=image_most hsp;obtain ⟨A1,c1,rfl,hs1⟩:=hov.sl b8_len him.1;rw [List.length_map] at hbo;have HBO2:=lh hbo;have HIM:=lh him;have HK2:=lh (HK1.out.trans hk2);clear x0 x1 x2 x3 x4 hgw hnb hsp hov hs1 hk2 HBU HSE HBO hbo him;generalize hIL:(imageB S).length=iL at HBO2 HIM ⊢;clear hIL;go_wp2;go_loopw [33,9,10] (fun vi vt vm wr=>∃ (i:Nat) (o:Value),vi=.int .i64 i∧i≤cs.length∧vt=.int .i64 (txL cs (rows.map (·.vs)) i:Nat)∧o=vm∧Hid (Own wr w2.heap.size 3 1 i64V o ((manyL cs (rows.map (·.vs))).take i))∧Hid (Keep w2 wr)) (fun vi _ _ _=>cs.length-(intOf vi).toNat)
   case atStart=>exact ⟨0,_,rfl,Nat.zero_le _,rfl,rfl,Own.nil_ _ _ _ _ _,Keep.refl _⟩
   case round =>
    obtain ⟨i,o,rfl,hi,rfl,rfl,HO,HK⟩:=hrel
    by_cases hlt:i<cs.length
    ·have hKw:Keep w wr:=(HKB.out.trans HK2.out).trans HK.out;obtain ⟨bA,offA,hA,hbA,h0,h1⟩:=sl_col (HL.out.keep hKw) i hlt;have HMT:=lh (many_take cs (rows.map (·.vs)) i hlt);have HML:=lh (show ((manyL cs (rows.map (·.vs))).take i).length≤256 by rw [many_len _ _ _ hi];have:=HF.out.may.hi;omega);have htx:=txL_small HE.out (by rw [List.length_map];omega) i;have hc256:=HF.out.may.hi;have hti:=tx_small HE.out (by rw [List.length_map];omega) i;have HTX:=lh (txL_succ cs (rows.map (·.vs)) i);have HDIM:=lh (kind_dim hlt);have hkind:=HF.out.may.kind i hlt;have HGD:=lh (col_err HE.out hlt);have HCE:=lh (show ∀ r∈rows,i<r.vs.length from fun r hr=>by
      have:=((terr_ok HE.out).2 r.vs (List.mem_map_of_mem hr)).1;omega)
     have hti2:txL cs (rows.map (·.vs)) i≤256*4194880:=Nat.le_trans htx (Nat.mul_le_mul_right _ (by omega));clear htx hti;generalize txL cs (rows.map (·.vs)) i=T at hti2 HTX ⊢;generalize hcl:cs[i]=cl at h0 h1 HDIM hkind HGD;obtain ⟨nm,kd⟩:=cl;simp only at h0 h1 HDIM hkind HGD;subst hA;have hk3:kd=3∨kd=1∨kd=2:=by omega
     clear hkind hcl
     rcases hk3 with rfl|hk3
     ·have hd:dimP cs (i:Int)=false:=HDIM.out;have HMF:=lh (show manyF cs (rows.map (·.vs)) i=0 by unfold manyF;rw [hd];rfl);have HTF:=lh (show txF cs (rows.map (·.vs)) i=0 by unfold txF;rw [hd];rfl);clear hd HDIM;go_wp2_with (at_builtin;refine hold ?_);refine unhold ?_;have HO3:Own (wr.alloc (.cells #[.int .i64 (0:Int)] 3)) w2.heap.size 3 1 i64V o ((manyL cs (rows.map (·.vs))).take i):=HO.out.keep (by repeat first|exact kp0|apply kp1|apply kp2|apply kp3|apply kp4);have hcw:(wr.alloc (.cells #[.int .i64 (0:Int)] 3)).cell? ⟨wr.heap.size,0,none⟩=some (.int .i64 (0:Int)):=by generalize wr=W0;simp [go_sem]
      have hzx:w2.heap.size≤wr.heap.size:=HK.out.size;refine wpList_app elt_int i64_len i64_one rfl (.tmp 70) (.tmp 72) rfl (ys:=[(0:Int)]) HO3 rfl rfl (sl_one _ (by omega) (by omega) (fun j u hu=>by
       match j,hu with
       | 0,hu=>cases hu;exact hcw)) (by have:=HML.out;rw [List.length_singleton];omega) (by simp;omega) ?_
      intro v1 w9 hown2 hg2 _;have ⟨a1,a2,a3⟩:=HO3.after hg2 (HK.out.trans (by repeat first|exact kp0|apply kp1|apply kp2|apply kp3|apply kp4)) (Nat.le_refl _);have HO4:=lh hown2;have HA1:=lh a1;clear hown2 hg2 HO3 a3;go_wp2;go_roundw
      case rel=>exact ⟨i+1,_,by go_num,by omega,(by rw [HTX.out,HTF.out];rfl),rfl,(by show Own _ _ _ _ _ _ _;rw [HMT.out,HMF.out];exact HO4.out),HA1.out⟩
      case measure=>simp [intOf];omega
     ·have hd:dimP cs (i:Int)=true:=by rw [HDIM.out];rcases hk3 with e|e<;>rw [e]<;>rfl
      have HMF:=lh (show manyF cs (rows.map (·.vs)) i=(dOwn (colV (rows.map (·.vs)) i)).length by unfold manyF;rw [hd];rfl);have HTF:=lh (show txF cs (rows.map (·.vs)) i=txV (dOwn (colV (rows.map (·.vs)) i)) by unfold txF;rw [hd];rfl);have HKC:=lh (show kindT ⟨nm,kd⟩=if kd=2 then 2 else 1 from rfl);have hcl:(colV (rows.map (·.vs)) i).length=rows.length:=by simp [colV]
      have HCO:=lh (fun W (hW:Keep w W)=>lcol_any B m i rows W (HR.out.keep hW) (HRA.out.keep hW) (by omega) HCE.out);have HSM:=lh (err_small HGD.out);have HWX:=lh (show ∀ x∈colV (rows.map (·.vs)) i,x.s.size≤maxLen from fun x hx=>by
       have:=err_small HGD.out x (((dOwn_sorted _).2 x).2 hx);unfold maxLen;omega)
      have hdl:=dOwn_len (colV (rows.map (·.vs)) i);have hxl:(colV (rows.map (·.vs)) i).length≤60:=by omega
      have HXL:=lh hxl;have hd60:(dOwn (colV (rows.map (·.vs)) i)).length≤60:=by omega
      clear hcl hdl hxl hd HDIM HCE;generalize hxs:colV (rows.map (·.vs)) i=xs at HMF HTF HCO HSM HWX HXL hd60 HGD;clear hxs;have HKW:=lh hKw;obtain ⟨wa,hwa⟩:∃ wa,wa=wr:=⟨_,rfl⟩;subst hwa;have hk33:(kd != 3)=true:=by rcases hk3 with e|e<;>rw [e]<;>rfl
      go_upto_region 13 with fail;clear hk33;go_cut [13] from 42 to 54 (fun s13 wx=>∃ A' c',s13=.slice A' (dOwn xs).length c'∧Hid (Sl wx 3 Val.cells A' c' (dOwn xs))∧Hid (Keep wa wx))
      case first =>
       rcases hk3 with rfl|rfl
       all_goals
            go_region_with (first
              | (go_at_call 18
                 refine (HCO.out _ (HKW.out.trans (by repeat first|exact kp0|apply kp1|apply kp2|apply kp3|apply kp4))).mono ?_;rintro e wc ⟨vc,rfl,hoc,hkc⟩;obtain ⟨Ac,cc,rfl,hsc⟩:=hoc.sl val_len (by have:=HXL.out;omega);have HSC:=lh hsc;have HKCC:=lh (Keep.trans (show Keep wa _ from (by repeat first|exact kp0|apply kp1|apply kp2|apply kp3|apply kp4)) hkc);have h1c:=(HKCC.out.cell (p:=⟨bA,offA+i*2+1,none⟩) hbA).trans h1;have hbc:=Nat.lt_of_lt_of_le hbA HKCC.out.size;clear hoc hkc hsc)
              | (go_at_call 20
                 refine (lids_any _ _ Ac cc xs _ HKC.out.symm (HSC.out.keep (by repeat first|exact kp0|apply kp1|apply kp2|apply kp3|apply kp4)) HGD.out HWX.out (by have:=HXL.out;omega)).mono ?_;rintro e wi ⟨A',c',vi,rfl,hsi,hoi,hki⟩))
       all_goals
            go_wp2_with fail;go_meet;exact ⟨A',c',rfl,hsi,(HKCC.out.trans (by repeat first|exact kp0|apply kp1|apply kp2|apply kp3|apply kp4)).trans hki⟩
      case rest =>
       rename World=>wx;obtain ⟨A',c',rfl,HSD,HKX⟩:=hcut;generalize dOwn xs=D at HMF HTF HSM hd60 HSD ⊢;have htl:=txT_le D HSM.out;have HTA:=lh (txT_all D);have HTL:=lh htl;clear htl;go_wp2;go_loopw [58,9] (fun vk vt wr=>∃ (k:Nat),vk=.int .i64 k∧k≤D.length∧vt=.int .i64 (T+txT D k:Nat)∧Hid (Keep wx wr)) (fun vk _ _=>D.length-(intOf vk).toNat)
       case atStart=>exact ⟨0,rfl,Nat.zero_le _,by simp [txT],Keep.refl _⟩
       case round =>
            obtain ⟨wq,hwq⟩:∃ wq,wq=wr:=⟨_,rfl⟩;subst hwq;obtain ⟨k,rfl,hk,rfl,HKQ⟩:=hrel;have ht1:=HTL.out k;have ht2:txT D k≤60*65545:=Nat.le_trans ht1 (Nat.mul_le_mul_right _ (by omega));clear ht1
            by_cases hkl:k<D.length
            ·obtain ⟨bD,offD,hA2,hbD,d0,d1,d2⟩:=sl_val (HSD.out.keep HKQ.out) k hkl;have hsz:=HSM.out _ (List.getElem_mem hkl);have HTS:=lh (txT_succ D k hkl);have hvl:=vB_len D[k];have HRV:=lh (rvb_any D[k] · (by omega));subst hA2;generalize D[k]=y at d0 d1 d2 HTS hvl HRV hsz;obtain ⟨yk,yn,ys⟩:=y;simp only at d0 d1 d2 hvl hsz;go_wp2_with (go_at_call 25;refine hold ?_);refine unhold ?_;refine (HRV.out _).mono ?_;rintro e wy ⟨u,rfl,hob,hky⟩;obtain ⟨Au,cu,rfl,_⟩:=hob.sl b8_len (by omega);have HKY:=lh (HKQ.out.trans hky);generalize (vB ⟨yk,yn,ys⟩).length=bl at HTS hvl ⊢;clear hob hky HRV d0 d1 d2 hbD;go_wp2;go_roundw
             case rel=>exact ⟨k+1,by go_num,by omega,(by rw [HTS.out];go_num),HKY.out⟩
             case measure=>simp [intOf];omega
            ·have hke:k=D.length:=by omega
             subst hke;rw [HTA.out] at ht2;go_wp2_with (at_builtin;refine hold ?_);refine unhold ?_;have HO3:Own (wq.alloc (.cells #[.int .i64 (D.length:Int)] 3)) w2.heap.size 3 1 i64V o ((manyL cs (rows.map (·.vs))).take i):=(HO.out.keep (HKX.out.trans HKQ.out)).keep (by repeat first|exact kp0|apply kp1|apply kp2|apply kp3|apply kp4);have hcw:(wq.alloc (.cells #[.int .i64 (D.length:Int)] 3)).cell? ⟨wq.heap.size,0,none⟩=some (.int .i64 (D.length:Int)):=by generalize wq=W0;simp [go_sem]
             have hzx:w2.heap.size≤wq.heap.size:=((HK.out.trans HKX.out).trans HKQ.out).size;refine wpList_app elt_int i64_len i64_one rfl (.tmp 70) (.tmp 72) rfl (ys:=[(D.length:Int)]) HO3 rfl rfl (sl_one _ (by omega) (by omega) (fun j u hu=>by
             match j,hu with
             | 0,hu=>cases hu;exact hcw)) (by have:=HML.out;rw [List.length_singleton];omega) (by simp only [World.size_alloc];omega) ?_
             intro v1 w9 hown2 hg2 _;have ⟨a1,a2,a3⟩:=HO3.after hg2 (((HK.out.trans HKX.out).trans HKQ.out).trans (by repeat first|exact kp0|apply kp1|apply kp2|apply kp3|apply kp4)) (Nat.le_refl _);have HO4:=lh hown2;have HA1:=lh a1;clear hown2 hg2 HO3 a3;go_wp2;go_roundw
             case rel=>exact ⟨i+1,_,by go_num,by omega,(by rw [HTX.out,HTF.out,HTA.out];simp),rfl,(by show Own _ _ _ _ _ _ _;rw [HMT.out,HMF.out];exact HO4.out),HA1.out⟩
             case measure=>simp [intOf];omega
    ·have hie:i=cs.length:=by omega
     subst hie;rw [show (manyL cs (rows.map (·.vs))).take cs.length=manyL cs (rows.map (·.vs)) from List.take_of_length_le (by simp [manyL])] at HO;have hmn:(manyL cs (rows.map (·.vs))).length=cs.length:=by simp [manyL]
     have htx:=txL_small HE.out (by rw [List.length_map];omega) cs.length;have hc256:=HF.out.may.hi;have hti2:txL cs (rows.map (·.vs)) cs.length≤256*4194880:=Nat.le_trans htx (Nat.mul_le_mul_right _ hc256);obtain ⟨Am,cm,rfl,hsm⟩:=HO.out.sl i64_len (by omega);have HSM:=lh hsm;have HBDK:=lh (HBD.out (manyL cs (rows.map (·.vs))) (txL cs (rows.map (·.vs)) cs.length:Nat));clear htx hc256 hsm HO HBD;generalize txL cs (rows.map (·.vs)) cs.length=T at hti2 HBO2 HBDK ⊢;generalize manyL cs (rows.map (·.vs))=ML at hmn HBO2 HBDK HSM ⊢;generalize boundR cs _ _ ML _=bnd at HBO2 HBDK;have HMN:=lh hmn;clear hmn;have x0:=box_cell (HK2.out.trans HK.out) HBS.out HX0.out;have x1:=box_cell (HK2.out.trans HK.out) HBS.out HX1.out;have x2:=box_cell (HK2.out.trans HK.out) HBS.out HX2.out;have x3:=box_cell (HK2.out.trans HK.out) HBS.out HX3.out;have x4:=box_cell (HK2.out.trans HK.out) HBS.out HX4.out;have hgw:g0<wr.heap.size:=block_lt_of_cell x0;have HKW:=lh (HKB.out.trans (HK2.out.trans HK.out));go_wp2_with (go_at_call 26;refine hold ?_);refine unhold ?_;refine (HBDK.out _ HKW.out Am cm HSM.out).mono ?_;rintro e w5 ⟨rfl,hk5⟩;have HK5:=lh (HKW.out.trans hk5);have hle2:=HBO2.out;have hgt2:(0:Int)<(iL:Int):=by have:=HIM.out.2;omega
     have hle:decide ((iL:Int)≤bnd)=true:=decide_eq_true HBO2.out;have hgt:decide ((0:Int)<(iL:Int))=true:=decide_eq_true (by have:=HIM.out.2;omega);clear hk5 x0 x1 x2 x3 x4 hgw HBDK;go_wp2_with (go_at_call 7;refine hold ?_);refine unhold ?_;refine (HKN.out _ HK5.out).mono ?_;rintro e w6 ⟨rfl,hk6⟩;have HK6:=lh (HK5.out.trans hk6);clear hk6;go_wp2;go_ret;exact ⟨rfl,HK6.out⟩
  ·clear HBU HBD HSE HBO HBZ;go_wp2_with (go_at_call 9;refine hold ?_);refine unhold ?_;refine (HNO.out hz0 _ (HKB.out.trans HK1.out)).mono ?_;rintro e w2 ⟨rfl,hk2⟩;have HK2:=lh ((HKB.out.trans HK1.out).trans hk2);clear hk2 x0 x1 x2 x3 x4 hgw HNO HCA hz0
   rcases hz1 with hz1|hz1|hz1
   all_goals
    rw [hz1];go_wp2_with (go_at_call 7;refine hold ?_);refine unhold ?_;refine (HKN.out _ HK2.out).mono ?_;rintro e w3 ⟨rfl,hk3⟩;have HK3:=lh (HK2.out.trans hk3);clear hk3;go_wp2;go_ret;exact ⟨rfl,HK3.out⟩
 ·go_wp2_with (go_at_call 7;refine hold ?_);refine unhold ?_;refine (HKN.out _ (HKB.out.trans HK1.out)).mono ?_;rintro e w2 ⟨rfl,hk2⟩;have HK2:=lh ((HKB.out.trans HK1.out).trans hk2);clear hk2;go_wp2;go_ret;exact ⟨rfl,HK2.out⟩
end Go.Proofs.YtpkocnpamcchcaaGreatDoor
