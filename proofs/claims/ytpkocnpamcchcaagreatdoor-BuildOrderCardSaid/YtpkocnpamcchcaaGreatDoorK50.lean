/- Parts of the proof. -/
import Derived.Test.YtpkocnpamcchcaaGreatDoorK47
import Derived.Test.YtpkocnpamcchcaaGreatDoorK49
set_option maxRecDepth 100000
set_option maxHeartbeats 4000000
set_option linter.unusedSimpArgs false
set_option linter.unusedVariables false
set_option linter.unnecessarySimpa false
namespace Go.Proofs.YtpkocnpamcchcaaGreatDoor
open Go.RowKit Go.Zone Go.Shelf
attribute [local go_sem] zone stepZ fill lookFs goes goesUpon dropFs cell_gro frozen_gro size_gro lt_add drew_gro tape_gro keep_refl
attribute [local go_sem] lt_add2 lt_add3 lt_add4 lt_add5 lt_add6 lt_add7 lt_add8 lt_add9 lt_add10 lt_add11 lt_add12
theorem bErr_ok{cs:List Col}{c:Cfg}{rows:List (List Val)}(h:bErr cs c rows=0):Fits cs c∧tErr cs rows=0:=by
 unfold bErr at h
 split at h
 ·rename_i hq;refine ⟨?_,h⟩
  by_cases hf:Fits cs c
  ·exact hf
  ·rw [pB_no hf] at hq;cases hq
 ·cases h
theorem sortF_idem(s:Int)(rows:List (List Val)):sortF s (sortF s rows)=sortF s rows:=by
 unfold sortF
 split
 ·exact Sym.ssort_self (ordL s.toNat) (Sym.ssort_stb (ordL s.toNat) rows).1
 ·rfl
theorem any_sort(s:Int)(rows:List (List Val))(p:List Val→Bool):(sortF s rows).any p=rows.any p:=by
 rw [Bool.eq_iff_iff,List.any_eq_true,List.any_eq_true];constructor
 ·rintro ⟨x,hx,h⟩;exact ⟨x,(sortF_mem s rows x).1 hx,h⟩
 ·rintro ⟨x,hx,h⟩;exact ⟨x,(sortF_mem s rows x).2 hx,h⟩
theorem tErr_sort(s:Int)(cs:List Col)(rows:List (List Val)):tErr cs (sortF s rows)=tErr cs rows:=by
 unfold tErr;rw [any_sort,any_sort,sortF_len]
theorem rsame18_b(A B:Option Addr)(c d:Nat)(xs ys:List Rw)(w:World)(h:Sl w 1 Rw.cells A c xs)(ha:RowsAt w xs)(k:Sl w 1 Rw.cells B d ys)(ka:RowsAt w ys) :
 Calls Tryz.prog 11 #[.slice A xs.length c,.slice B ys.length d] w fun e w'=>e=.returned (.bool (pB (xs.map (·.vs)=ys.map (·.vs))))∧Keep w w':=by
 refine (rsame18_any A B c d xs ys w h ha k ka).mono ?_;rintro e w' ⟨⟨b,rfl,hb⟩,hk⟩;refine ⟨?_,hk⟩
 by_cases hp:xs.map (·.vs)=ys.map (·.vs)
 ·rw [pB_yes hp,hb.2 hp]
 ·rw [pB_no hp]
  cases b
  ·rfl
  ·exact absurd (hb.1 rfl) hp
theorem order_law(A B C:Option Addr)(n m q:Nat)(cs:List Col)(c:Cfg)(rows oth:List Rw)(w:World)(h:Sl w 2 Col.cells A n cs)(hz:∀ x∈cs,x.name.size≤140737488355328)(hc:CfgAt w c)(hiA:∀ bb off,c.iA=some ⟨bb,off,none⟩→bb<w.heap.size)(hrA:∀ bb off,c.rA=some ⟨bb,off,none⟩→bb<w.heap.size)
 (hr:Sl w 1 Rw.cells B m rows) (hra:RowsAt w rows) (hwf:∀ r∈rows,∀ x∈r.vs,WfV x) (ho:Sl w 1 Rw.cells C q oth) (hoa:RowsAt w oth) (hwo:∀ r∈oth,∀ x∈r.vs,WfV x) (htab:TabP w) (htb:Tab w) :
 Calls Tryz.prog 4 #[.slice A cs.length n,c.v,.slice B rows.length m,.slice C oth.length q] w fun e w'=>e=.returned (.bool true)∧Keep w w':=by
 have HG:=lh (fun W (hW:Keep w W)=>great22_any A B n m cs c rows W (h.keep hW) hz (hc.keep hW) (hr.keep hW) (hra.keep hW));have HGO:=lh (fun W (hW:Keep w W)=>great22_any A C n q cs c oth W (h.keep hW) hz (hc.keep hW) (ho.keep hW) (hoa.keep hW));have HKN:=lh (fun W (hW:Keep w W)=>known22_any W (htab.keep hW) (htb.keep hW));have HNO:=lh (fun he W (hW:Keep w W)=>build_no cs c A B n m rows W (h.keep hW) hz (hc.keep hW) (hr.keep hW) (hra.keep hW) he);have HBU:=lh (fun (D:Option Addr) (d:Nat) (rs:List Rw) hf W (hW:Keep w W) (hs:Sl W 1 Rw.cells D d rs) (hsa:RowsAt W rs) hrl hrs he hS=>build_any cs c A D n d rs W (h.keep hW) hf (hc.keep hW) (fun bb off e=>Nat.lt_of_lt_of_le (hiA bb off e) hW.size) (fun bb off e=>Nat.lt_of_lt_of_le (hrA bb off e) hW.size) hs hsa hrl hrs he (htab.keep hW) (htb.keep hW) hS);have HSR:=lh (fun hf hl he W (hW:Keep w W)=>rsort18_any A B n m cs c rows W (h.keep hW) hz (hc.keep hW) hf (hr.keep hW) (hra.keep hW) hl he);have HSN:=lh (fun hl he W (hW:Keep w W)=>rsort18_no A B n m cs c rows W (h.keep hW) hz (hc.keep hW) (hr.keep hW) (hra.keep hW) hl he);have HSO:=lh (fun hf hl he W (hW:Keep w W)=>rsort18_any A C n q cs c oth W (h.keep hW) hz (hc.keep hW) hf (ho.keep hW) (hoa.keep hW) hl he);have HSM:=lh (fun hl he W (hW:Keep w W)=>rsort18_no A C n q cs c oth W (h.keep hW) hz (hc.keep hW) (ho.keep hW) (hoa.keep hW) hl he);have HSE:=lh (fun (rs:List (List Val)) hf he hrl S hS=>sorted_secs (cs:=cs) (c:=c) (rows:=rs) (S:=S) hf he hrl hS)
 have HBZ:=lh (fun rs=>bErr_ok (cs:=cs) (c:=c) (rows:=rs));have HINJ:=lh (fun hf (h1:tErr cs (rows.map (·.vs))=0) (h2:tErr cs (oth.map (·.vs))=0) (l1:rows.length≤60) (l2:oth.length≤60) (he:imgG cs c (sortF c.sort (oth.map (·.vs)))=imgG cs c (sortF c.sort (rows.map (·.vs)))) =>
  rows_inj hf (by rw [tErr_sort];exact h2) (by rw [tErr_sort];exact h1) (fun r hr x hx=>by
   obtain ⟨r',hr',e⟩:=List.mem_map.1 ((sortF_mem c.sort _ r).1 hr);subst e;exact hwo r' hr' x hx) (fun r hr x hx=>by
   obtain ⟨r',hr',e⟩:=List.mem_map.1 ((sortF_mem c.sort _ r).1 hr);subst e;exact hwf r' hr' x hx) (by rw [sortF_len,List.length_map];omega) (by rw [sortF_len,List.length_map];omega) he)
 have HR:=lh hr;have HRA:=lh hra;have HO:=lh ho;have HOA:=lh hoa;have hrl:=sl_len hr;have hol:=sl_len ho;have hcase:∀ rs,bErr cs c rs=0∨(bErr cs c rs≠0∧(bErr cs c rs=2∨bErr cs c rs=3∨bErr cs c rs=9)):=fun rs=>by
  have:=tErr_any cs rs;unfold bErr
  split
  ·rcases this with h|h|h|h<;>simp [h]
  ·simp
 have HCA:=lh hcase;clear hcase h hz hc hiA hrA hr hra hwf htab htb ho hoa hwo;obtain ⟨s0,iA,ic,iv,rA,rc,rv,sA,sc,sp,lf⟩:=c;simp only [Cfg.v] at HG HGO HNO HBU HSR HSN HSO HSM HSE HBZ HINJ HCA ⊢;go_enter Tryz.func4,Tryz.ntmps4;go_upto_region 1 with fail;have hB:BoxA w (w.alloc (.cells #[.int .i64 s0,.slice iA iv.length ic,.slice rA rv.length rc,.slice sA sp.length sc,.int .i64 lf] 26)) [.int .i64 s0,.slice iA iv.length ic,.slice rA rv.length rc,.slice sA sp.length sc,.int .i64 lf]:=BoxA.start (t:=26) (Keep.refl _);generalize hwb:World.alloc w _=wb at hB ⊢;have hbs:=hB.lt;have x0:=hB.at_ 0 _ rfl;have x1:=hB.at_ 1 _ rfl;have x2:=hB.at_ 2 _ rfl;have x3:=hB.at_ 3 _ rfl;have x4:=hB.at_ 4 _ rfl;have HKB:=lh hB.keep;have HX0:=lh x0;have HX1:=lh x1;have HX2:=lh x2;have HX3:=lh x3;have HX4:=lh x4;clear hwb hB;generalize w.heap.size=g0 at hbs x0 x1 x2 x3 x4 HX0 HX1 HX2 HX3 HX4 ⊢;have HBS:=lh hbs;go_wp2_with (go_at_call 6;refine hold ?_);refine unhold ?_;refine (HG.out _ HKB.out).mono ?_;rintro e w1 ⟨⟨b,rfl,hb⟩,hk1⟩;have HK1:=lh hk1;have HGB:=lh hb;clear x0 x1 x2 x3 x4 hk1 HG hb
 cases b
 ·have x0:=box_cell HK1.out HBS.out HX0.out;have x1:=box_cell HK1.out HBS.out HX1.out;have x2:=box_cell HK1.out HBS.out HX2.out;have x3:=box_cell HK1.out HBS.out HX3.out;have x4:=box_cell HK1.out HBS.out HX4.out;have hgw:g0<w1.heap.size:=block_lt_of_cell x0;go_wp2_with (go_at_call 6;refine hold ?_);refine unhold ?_;refine (HGO.out _ (HKB.out.trans HK1.out)).mono ?_;rintro e w2 ⟨⟨b,rfl,hb⟩,hk2⟩;have HK2:=lh (HK1.out.trans hk2);have HGB2:=lh hb;clear x0 x1 x2 x3 x4 hgw hk2 HGO hb HK1
  cases b
  ·have hgb:=HGB.out (by simp);have hgb2:=HGB2.out (by simp);have hr60:rows.length≤60:=by omega
   have ho60:oth.length≤60:=by omega
   have HR3:=lh hgb.2;have HO3:=lh hgb2.2;clear hgb HGB hgb2 HGB2;have x0:=box_cell HK2.out HBS.out HX0.out;have x1:=box_cell HK2.out HBS.out HX1.out;have x2:=box_cell HK2.out HBS.out HX2.out;have x3:=box_cell HK2.out HBS.out HX3.out;have x4:=box_cell HK2.out HBS.out HX4.out;have hgw:g0<w2.heap.size:=block_lt_of_cell x0
   rcases HCA.out (rows.map (·.vs)) with hz0 | ⟨hz0,hz1⟩
   ·obtain ⟨hf,he⟩:=HBZ.out _ hz0;have HF:=lh hf;have HE:=lh he;clear hz0 hf he HNO HSN;go_wp2_with (go_at_call 9;refine hold ?_);refine unhold ?_;refine (HBU.out B m rows HF.out _ (HKB.out.trans HK2.out) (HR.out.keep (HKB.out.trans HK2.out)) (HRA.out.keep (HKB.out.trans HK2.out)) (by omega) (fun r hr=>by have:=HR3.out r hr;omega) HE.out (fun S hS=>HSE.out _ HF.out HE.out (by rw [List.length_map];omega) S hS)).mono ?_;rintro e w3 ⟨v1,S1,rfl,hnb1,hsp1,hov1,hk3⟩;obtain ⟨A1,c1,rfl,hs1⟩:=hov1.sl b8_len (image_most hsp1).1;have HNB1:=lh hnb1;have HSP1:=lh hsp1;have HS1:=lh hs1;have HK3:=lh (HK2.out.trans hk3);clear x0 x1 x2 x3 x4 hgw hnb1 hsp1 hov1 hs1 hk3;have x0:=box_cell HK3.out HBS.out HX0.out;have x1:=box_cell HK3.out HBS.out HX1.out;have x2:=box_cell HK3.out HBS.out HX2.out;have x3:=box_cell HK3.out HBS.out HX3.out;have x4:=box_cell HK3.out HBS.out HX4.out;have hgw:g0<w3.heap.size:=block_lt_of_cell x0;go_wp2_with (go_at_call 10;refine hold ?_);refine unhold ?_;refine (HSR.out HF.out (by omega) HE.out _ (HKB.out.trans HK3.out)).mono ?_;rintro e w4 ⟨v2,rfl,hov2,hk4⟩;have hRv:=sortR_vs s0 rows;have hRl:=sortR_len s0 rows;have HRM:=lh (show ∀ r∈sortR s0 rows,r∈rows from fun r hr=>(sortR_mem s0 rows r).1 hr);generalize sortR s0 rows=R at hov2 hRv hRl HRM;have HRV:=lh hRv;have HRL:=lh hRl;obtain ⟨D,d,rfl,hsR⟩:=hov2.sl rw_len (by omega);have HSR4:=lh hsR;have HK4:=lh (HK3.out.trans hk4);have HK34:=lh hk4
    have HRA4:=lh (show RowsAt w4 R from fun r hr=>(HRA.out r (HRM.out r hr)).keep (HKB.out.trans (HK3.out.trans hk4)));clear x0 x1 x2 x3 x4 hgw hov2 hRv hRl hsR hk4 HSR;have x0:=box_cell HK4.out HBS.out HX0.out;have x1:=box_cell HK4.out HBS.out HX1.out;have x2:=box_cell HK4.out HBS.out HX2.out;have x3:=box_cell HK4.out HBS.out HX3.out;have x4:=box_cell HK4.out HBS.out HX4.out;have hgw:g0<w4.heap.size:=block_lt_of_cell x0;have HER:=lh (show tErr cs (R.map (·.vs))=0 by rw [HRV.out,tErr_sort];exact HE.out);go_wp2_with (go_at_call 9;refine hold ?_);refine unhold ?_;refine (HBU.out D d R HF.out _ (HKB.out.trans HK4.out) HSR4.out HRA4.out (by have:=HRL.out;omega) (fun r hr=>by have:=HR3.out r (HRM.out r hr);omega) HER.out (fun S hS=>HSE.out _ HF.out HER.out (by rw [List.length_map];have:=HRL.out;omega) S hS)).mono ?_;rintro e w5 ⟨v3,S2,rfl,hnb2,hsp2,hov3,hk5⟩;rw [HRV.out,sortF_idem] at hnb2;have him:imageB S2=imageB S1:=image_same (hnb2.trans HNB1.out.symm);rw [him] at hov3;obtain ⟨A3,c3,rfl,hs3⟩:=hov3.sl b8_len (image_most HSP1.out).1;have HS3:=lh hs3;have HS15:=lh (HS1.out.keep (HK34.out.trans hk5));have HK5:=lh (HK4.out.trans hk5);have HSR5:=lh (HSR4.out.keep hk5);have HRA5:=lh (HRA4.out.keep hk5);clear x0 x1 x2 x3 x4 hgw hnb2 hsp2 him hov3 hs3 hk5 HS1 HSR4 HRA4;have x0:=box_cell HK5.out HBS.out HX0.out;have x1:=box_cell HK5.out HBS.out HX1.out;have x2:=box_cell HK5.out HBS.out HX2.out;have x3:=box_cell HK5.out HBS.out HX3.out;have x4:=box_cell HK5.out HBS.out HX4.out
    have hgw:g0<w5.heap.size:=block_lt_of_cell x0;obtain ⟨B1,hB1⟩:∃ B1,B1=imageB S1:=⟨_,rfl⟩;rw [← hB1] at HS3 HS15 ⊢;have HB1:=lh hB1;clear hB1;have hcv1:=strB HS15.out;have hcv3:=strB HS3.out;go_upto_region 10 with fail;clear hcv1 hcv3
    rcases HCA.out (oth.map (·.vs)) with hz0 | ⟨hz0,hz1⟩
    ·obtain ⟨hf2,he2⟩:=HBZ.out _ hz0;have HEO:=lh he2;clear hz0 hf2 he2 HSM;go_wp2_with (go_at_call 10;refine hold ?_);refine unhold ?_;refine (HSO.out HF.out (by omega) HEO.out _ (HKB.out.trans HK5.out)).mono ?_;rintro e w6 ⟨v4,rfl,hov4,hk6⟩;have hQv:=sortR_vs s0 oth;have hQl:=sortR_len s0 oth;have HQM:=lh (show ∀ r∈sortR s0 oth,r∈oth from fun r hr=>(sortR_mem s0 oth r).1 hr);generalize sortR s0 oth=Q at hov4 hQv hQl HQM;have HQV:=lh hQv;obtain ⟨E,e1,rfl,hsQ⟩:=hov4.sl rw_len (by omega);have HSQ6:=lh hsQ;have HK6:=lh (HK5.out.trans hk6);have HK56:=lh hk6;have HQA6:=lh (show RowsAt w6 Q from fun r hr=>(HOA.out r (HQM.out r hr)).keep (HKB.out.trans (HK5.out.trans hk6)));clear x0 x1 x2 x3 x4 hgw hov4 hQv hQl hsQ hk6 HSO;have x0:=box_cell HK6.out HBS.out HX0.out;have x1:=box_cell HK6.out HBS.out HX1.out;have x2:=box_cell HK6.out HBS.out HX2.out;have x3:=box_cell HK6.out HBS.out HX3.out;have x4:=box_cell HK6.out HBS.out HX4.out;have hgw:g0<w6.heap.size:=block_lt_of_cell x0;go_wp2_with (go_at_call 9;refine hold ?_);refine unhold ?_;refine (HBU.out C q oth HF.out _ (HKB.out.trans HK6.out) (HO.out.keep (HKB.out.trans HK6.out)) (HOA.out.keep (HKB.out.trans HK6.out)) (by omega) (fun r hr=>by have:=HO3.out r hr;omega) HEO.out (fun S hS=>HSE.out _ HF.out HEO.out (by rw [List.length_map];omega) S hS)).mono ?_;rintro e w7 ⟨v5,S3,rfl,hnb3,hsp3,hov5,hk7⟩;have hcmp:((⟨(imageB S3).toArray⟩:ByteArray).toList==(⟨B1.toArray⟩:ByteArray).toList)=pB (Q.map (·.vs)=R.map (·.vs)):=by
         rw [HQV.out,HRV.out,HB1.out]
         by_cases hp:sortF s0 (oth.map (·.vs))=sortF s0 (rows.map (·.vs))
         ·rw [pB_yes hp,image_same (hnb3.trans (by rw [hp];exact HNB1.out.symm))];simp
         ·rw [pB_no hp];refine Bool.eq_false_iff.2 fun hb=>hp (HINJ.out HF.out HE.out HEO.out hr60 ho60 ?_);have hb2:imageB S3=imageB S1:=by
           have h:=beq_iff_eq.1 hb;rw [Lib.toList_data,Lib.toList_data] at h;exact h
          exact hnb3.symm.trans ((image_inj hsp3 HSP1.out hb2).trans HNB1.out)
     obtain ⟨A5,c5,rfl,hs5⟩:=hov5.sl b8_len (image_most hsp3).1;generalize imageB S3=B3 at hcmp hs5 ⊢;have HK7:=lh (HK6.out.trans hk7);have hcv5:∀ p,(convert 31 9 (.slice A5 B3.length c5)).run Tryz.prog (w7.gro p)=.ok (.string ⟨B3.toArray⟩) (w7.gro p):=fun p=>strB (hs5.keep (Keep.gro (Keep.refl _) p));have hcv1:∀ p,(convert 31 9 (.slice A1 B1.length c1)).run Tryz.prog (w7.gro p)=.ok (.string ⟨B1.toArray⟩) (w7.gro p):=fun p=>strB ((HS15.out.keep (HK56.out.trans hk7)).keep (Keep.gro (Keep.refl _) p));have HSA:=lh (fun W (hW:Keep w7 W)=>rsame18_b E D e1 d Q R W (HSQ6.out.keep (hk7.trans hW)) (HQA6.out.keep (hk7.trans hW)) (HSR5.out.keep (HK56.out.trans (hk7.trans hW))) (HRA5.out.keep (HK56.out.trans (hk7.trans hW))));have HKK:=lh (fun W (hW:Keep w7 W)=>HKN.out W (HKB.out.trans (HK7.out.trans hW)));generalize pB (Q.map (·.vs)=R.map (·.vs))=bb at hcmp HSA;generalize (⟨B3.toArray⟩:ByteArray)=t3 at hcmp hcv5;generalize (⟨B1.toArray⟩:ByteArray)=t1 at hcmp hcv1;clear x0 x1 x2 x3 x4 hgw hnb3 hsp3 hov5 hs5 hk7 HKN HBU HSE HBZ HINJ HCA;go_upto_region 14 with fail
     first|refine Zone.wp_region_all_gro (by kernel_rfl) (by kernel_rfl) ?_|refine Zone.wp_region_all (by kernel_rfl) (by kernel_rfl) ?_
     repeat
         refine Zone.wpZ_step (fun K hK=>?_);go_simp
         first
         | (refine hK _ _ ?_;clear hK K)
         | (apply Exists.intro
            refine ⟨fun p=>?_,hK _ _ ?_⟩
            ((first|(go_at_call 11;exact Zone.zc (HSA.out _ (by repeat first|exact kp0|apply kp1|apply kp2|apply kp3|apply kp4)))|(go_at_call 7;exact Zone.zc (HKK.out _ (by repeat first|exact kp0|apply kp1|apply kp2|apply kp3|apply kp4)))))
            clear hK K)
     refine Zone.wpZ_nil ?_;intro p;simp only [Zone.fill];go_wp2;go_ret;exact ⟨rfl,(HKB.out.trans HK7.out).trans (by repeat first|exact kp0|apply kp1|apply kp2|apply kp3|apply kp4)⟩
    ·clear HBU HSO HSE HINJ;go_wp2_with (go_at_call 10;refine hold ?_);refine unhold ?_;refine (HSM.out (by omega) hz0 _ (HKB.out.trans HK5.out)).mono ?_;rintro e w6 ⟨rfl,hk6⟩;have HK6:=lh ((HKB.out.trans HK5.out).trans hk6);clear hk6 x0 x1 x2 x3 x4 hgw
     rcases hz1 with hz1|hz1|hz1
     all_goals
         rw [hz1];go_wp2_with (go_at_call 7;refine hold ?_);refine unhold ?_;refine (HKN.out _ HK6.out).mono ?_;rintro e w7 ⟨rfl,hk7⟩;have HK7:=lh (HK6.out.trans hk7);clear hk7;go_wp2;go_ret;exact ⟨rfl,HK7.out⟩
   ·clear HBU HSR HSE HINJ;go_wp2_with (go_at_call 9;refine hold ?_);refine unhold ?_;refine (HNO.out hz0 _ (HKB.out.trans HK2.out)).mono ?_;rintro e w3 ⟨rfl,hk3⟩;have HK3:=lh (HK2.out.trans hk3);clear x0 x1 x2 x3 x4 hgw hk3 HNO;have x0:=box_cell HK3.out HBS.out HX0.out;have x1:=box_cell HK3.out HBS.out HX1.out;have x2:=box_cell HK3.out HBS.out HX2.out;have x3:=box_cell HK3.out HBS.out HX3.out;have x4:=box_cell HK3.out HBS.out HX4.out;have hgw:g0<w3.heap.size:=block_lt_of_cell x0
    rcases hz1 with hz1|hz1|hz1
    all_goals
     rw [hz1];go_wp2_with (go_at_call 10;refine hold ?_);refine unhold ?_;refine (HSN.out (by omega) hz0 _ (HKB.out.trans HK3.out)).mono ?_;rintro e w4 ⟨rfl,hk4⟩;rw [hz1];have HK4:=lh ((HKB.out.trans HK3.out).trans hk4);clear hk4 x0 x1 x2 x3 x4 hgw;go_wp2_with (go_at_call 7;refine hold ?_);refine unhold ?_;refine (HKN.out _ HK4.out).mono ?_;rintro e w5 ⟨rfl,hk5⟩;have HK5:=lh (HK4.out.trans hk5);clear hk5;go_wp2;go_ret;exact ⟨rfl,HK5.out⟩
  ·go_wp2_with (go_at_call 7;refine hold ?_);refine unhold ?_;refine (HKN.out _ (HKB.out.trans HK2.out)).mono ?_;rintro e w3 ⟨rfl,hk3⟩;have HK3:=lh ((HKB.out.trans HK2.out).trans hk3);clear hk3;go_wp2;go_ret;exact ⟨rfl,HK3.out⟩
 ·go_wp2_with (go_at_call 7;refine hold ?_);refine unhold ?_;refine (HKN.out _ (HKB.out.trans HK1.out)).mono ?_;rintro e w2 ⟨rfl,hk2⟩;have HK2:=lh ((HKB.out.trans HK1.out).trans hk2);clear hk2;go_wp2;go_ret;exact ⟨rfl,HK2.out⟩
end Go.Proofs.YtpkocnpamcchcaaGreatDoor
