/- Parts of the proof. -/
import Derived.Test.YtpkocnpamcchcaaGreatDoorK35
set_option maxRecDepth 100000
set_option maxHeartbeats 4000000
set_option linter.unusedSimpArgs false
set_option linter.unusedVariables false
set_option linter.unnecessarySimpa false
namespace Go.Proofs.YtpkocnpamcchcaaGreatDoor
open Go.RowKit Go.Zone Go.Shelf
attribute [local go_sem] zone stepZ fill lookFs goes goesUpon dropFs cell_gro frozen_gro size_gro lt_add drew_gro tape_gro keep_refl
attribute [local go_sem] lt_add2 lt_add3 lt_add4 lt_add5 lt_add6 lt_add7 lt_add8 lt_add9 lt_add10 lt_add11 lt_add12
attribute [local go_sem ↓] to_fastL
attribute [local go_sem] fast_load rd10_drew rd10_drewN rd10_gro
theorem sof_any(A B C:Option Addr)(a b c leaf R:Nat)(sp mt:List Ir)(many:List Int)(w:World)(hS:Sl w 1 Ir.cells A a sp)(hSa:IrAt w sp)(hB:Sl w 1 i64V B b many)(hM:Sl w 1 Ir.cells C c mt)(hMa:IrAt w mt)(hok:SplitOk sp many R)(hmt:mt.length≤256)(hl1:1≤leaf)(hl2:leaf≤1000000)(hR:R≤1000)(hmr:∀ r∈mt,r.xs.length=R) :
 Calls Tryz.prog 36 #[.slice A sp.length a,.slice B many.length b,.slice C mt.length c,.int .i64 leaf] w fun e w'=>∃ gt vr vn P N,e=.returned (.tuple #[.pointer (some ⟨gt,0,none⟩),.int .i64 0])∧StarAt w' gt w.heap.size sp.length mt.length leaf vr vn P N ∧
  (P.map fun p=>p.2)=(Star.growF leaf sp.length 0 0 (Star.togF (srcF sp mt R)).length false (Star.togF (srcF sp mt R)) 0).1∧(N.map fun p=>p.2)=(Star.growF leaf sp.length 0 0 (Star.togF (srcF sp mt R)).length false (Star.togF (srcF sp mt R)) 0).2∧Keep w w':=by
 have HMAY:=lh (starmay_any A B C a b c leaf R sp mt many w hS hSa hB hM hok hmt hl1 hl2 (by omega) hmr);have HS:=lh hS;have HSA:=lh hSa;have HM:=lh hM;have HMA:=lh hMa;have HOK:=lh hok;have HMR:=lh hmr;obtain ⟨n,hn⟩:∃ n,n=sp.length:=⟨_,rfl⟩;have hn1:=hok.lo;have hn8:=hok.hi;rw [← hn] at hn1 hn8;obtain ⟨bs,os,hAe,hc0⟩:=hS.at_ 0 (by omega);have s0:=hc0 0 _ rfl;have hrr:(sp[0]'(by omega)).xs.length=R:=hok.row _ (List.getElem_mem _);rw [hrr] at s0;have hbs:=block_lt_of_cell s0;simp only [Nat.zero_mul,Nat.add_zero] at s0 hbs;generalize (sp[0]'(by omega)).A=A0 at s0;generalize (sp[0]'(by omega)).c=c0 at s0;have HN:=lh hn;have HS0:=lh s0;obtain ⟨m,hmn⟩:∃ m,m=mt.length:=⟨_,rfl⟩;have HMN:=lh hmn;obtain ⟨ml,hml⟩:∃ ml,ml=many.length:=⟨_,rfl⟩;rw [← hn,← hmn,← hml] at HMAY ⊢;rw [← hmn] at hmt;clear hS hSa hB hM hMa hok hmr hn hc0 hrr s0 hmn hml;subst hAe;go_enter Tryz.func36,Tryz.ntmps36;go_wp2_with (go_at_call 83;refine hold ?_);refine unhold ?_;refine HMAY.out.mono ?_;rintro e w1 ⟨rfl,hk1⟩;have s0:=(hk1.cell (p:=⟨bs,os,none⟩) hbs).trans HS0.out;have hbs1:=Nat.lt_of_lt_of_le hbs hk1.size;have HK1:=lh hk1;clear hk1 HMAY;have d1:¬ ((16777216:Int)<(R:Int)):=by omega
 go_wp2;have hr2:=row_alloc w1 153 (trC n m leaf (.slice none 0 0) (.slice none 0 0));have hr2:Row (w1.alloc (.cells #[.int .i64 n,.int .i64 m,.int .i64 leaf,.slice none 0 0,.slice none 0 0] 153)) w1.heap.size 153 (trC n m leaf (.slice none 0 0) (.slice none 0 0)):=hr2;have hk2:Keep w (w1.alloc (.cells #[.int .i64 n,.int .i64 m,.int .i64 leaf,.slice none 0 0,.slice none 0 0] 153)):=HK1.out.trans (Keep.alloc (Keep.refl _) _);have HGT:=lh HK1.out.size;generalize w1.alloc (.cells #[.int .i64 n,.int .i64 m,.int .i64 leaf,.slice none 0 0,.slice none 0 0] 153)=w2 at hr2 hk2 ⊢;generalize w1.heap.size=gt at hr2 HGT ⊢;have HR2:=lh hr2;have HK2:=lh hk2;clear hr2 hk2 s0 hbs1 HK1 d1;go_loopw [11,41] (fun vo vi wr=>∃ (i:Nat) (P:List (Rc × Star.SR)),i≤R∧vi=.int .i64 i∧Hid (OwnRc wr w2.heap.size vo (P.map fun p=>p.1))∧Hid (RecsAt wr w2.heap.size P)∧Hid ((P.map fun p=>p.2)=(srcF sp mt R).take i)∧Hid (i=0→vo=.slice none 0 0)∧Hid (Keep w2 wr)) (fun _ vi _=>R-(intOf vi).toNat)
 case atStart=>exact ⟨0,[],Nat.zero_le _,rfl,Own.nil_ _ _ _ _ _,(fun _ h=>(by cases h)),rfl,(fun _=>rfl),Keep.refl _⟩
 case round =>
  obtain ⟨i,P,hi,rfl,HO,HP,HE,HI0,HK⟩:=hrel;have hPl:P.length=i:=by
   have:=congrArg List.length HE.out
   simpa [srcF,Nat.min_eq_left hi] using this
  have HPL:=lh hPl;obtain ⟨Ao,co,hvo⟩:=own_form HO.out;rw [List.length_map,hPl] at hvo;subst hvo;clear hPl
  by_cases hlt:i<R
  ·go_upto_region 12 with fail;have hr3:=row_alloc wr 158 (cellsOf (rowsJ sp i 0) 1 (.slice none 0 0));have hr3:Row (wr.alloc (.cells #[.int .i64 0,.int .i64 0,.int .i64 0,.int .i64 0,.int .i64 0,.int .i64 0,.int .i64 0,.int .i64 0,.int .i64 1,.slice none 0 0] 158)) wr.heap.size 158 (cellsOf (rowsJ sp i 0) 1 (.slice none 0 0)):=hr3;have hk3:Keep wr (wr.alloc (.cells #[.int .i64 0,.int .i64 0,.int .i64 0,.int .i64 0,.int .i64 0,.int .i64 0,.int .i64 0,.int .i64 0,.int .i64 1,.slice none 0 0] 158)):=Keep.alloc (Keep.refl _) _;generalize wr.alloc (.cells #[.int .i64 0,.int .i64 0,.int .i64 0,.int .i64 0,.int .i64 0,.int .i64 0,.int .i64 0,.int .i64 0,.int .i64 1,.slice none 0 0] 158)=w3 at hr3 hk3 ⊢;have HGX:=lh (Nat.le_trans HK2.out.size HK.out.size);have HGX2:=lh HK.out.size;have HK3:=lh (HK.out.trans hk3);have HO3:=lh (HO.out.keep hk3);have HP3:=lh (HP.out.keep hk3);have hwo:Ao=none∨True:=.inr trivial;have HOB:=lh (show ∀ b,(Value.slice Ao i co).ownBlock=some b→b<wr.heap.size from fun b hb=>(HO.out.lt b hb).2);have HPB:=lh (show ∀ p∈P,∀ b,blkR p.1=some b→b<wr.heap.size from fun p hp b hb=>((HP.out p hp).own.lt b hb).2);generalize wr.heap.size=gx at hr3 HGX HGX2 HOB HPB ⊢;have HR3:=lh hr3;clear hr3 hk3 hwo HO HP HK;go_loopw [47] (fun vj wq=>∃ j:Nat,j≤n∧vj=.int .i64 j∧Hid (Row wq gx 158 (cellsOf (rowsJ sp i j) 1 (.slice none 0 0)))∧Hid (Turn w3 wq [gx])) (fun vj _=>n-(intOf vj).toNat)
   case atStart=>exact ⟨0,Nat.zero_le _,rfl,HR3.out,Turn.refl _ _⟩
   case round =>
    clear HR3;obtain ⟨j,hj,rfl,HRX,HTX⟩:=hrel;have hkq:Keep w wr:=Turn.after (HK2.out.trans HK3.out) HTX.out (fun b hb=>by simp at hb;have:=HGX.out;omega)
    by_cases hjn:j<n
    ·have hjs:j<sp.length:=by have:=HN.out;omega
     obtain ⟨bs',os',hA',hc⟩:=(HS.out.keep hkq).at_ j hjs;simp only [Option.some.injEq,Addr.mk.injEq,and_true] at hA';obtain ⟨rfl,rfl⟩:=hA';have s0:=hc 0 _ rfl;have hrr:sp[j].xs.length=R:=HOK.out.row _ (List.getElem_mem _);have hij:i<sp[j].xs.length:=by omega
     obtain ⟨bj,oj,hAj,hbj,m0⟩:=sl_i64 ((HSA.out sp[j] (List.getElem_mem _)).keep hkq) i hij;have hset:=rowsJ_set sp i j hjs (by omega);have hgd:sp[j].xs.getD i 0=sp[j].xs[i]:=by rw [List.getD_eq_getElem?_getD,List.getElem?_eq_getElem hij];rfl
     rw [hgd] at hset;have hrl:=rowsJ_len sp i j (by omega) (by omega);obtain ⟨ov,hov⟩:∃ ov,(cellsOf (rowsJ sp i j) 1 (.slice none 0 0))[j]? =some ov:=⟨_,List.getElem?_eq_getElem (by simp [cellsOf];omega)⟩;have x0:=HRX.out.cell j _ hov;have f0:=HRX.out.soft j;have hgx:=HRX.out.lt;have hbs:=block_lt_of_cell s0;simp only at hbs;rw [hrr,hAj,Nat.mul_one,Nat.add_zero] at s0;have hR2:=HRX.out.set j (.int .i64 sp[j].xs[i]);rw [cellsOf_set _ _ _ _ _ (by omega),hset] at hR2;have HR2':=lh hR2;have HTS:=lh (Turn.set wr ⟨gx,j,none⟩ (.int .i64 sp[j].xs[i]));generalize sp[j].xs[i]=z at m0 HR2' HTS;generalize sp[j].c=cj at s0;obtain ⟨ozi,hozi⟩:∃ z9,ov=.int .i64 z9:=by
      have h9:(cellsOf (rowsJ sp i j) 1 (.slice none 0 0))[j]? =some (.int .i64 ((rowsJ sp i j)[j]'(by omega))):=by
       unfold cellsOf;rw [List.getElem?_append_left (by simp;omega),List.getElem?_map,List.getElem?_eq_getElem (by omega)];rfl
      rw [h9] at hov;exact ⟨_,(Option.some.inj hov).symm⟩
     subst hozi;have hj8:j<8:=by omega
     clear hc hrr hij hset hgd hrl hov hR2 hAj hjs hkq;go_wp2;go_roundw
     case rel=>exact ⟨j+1,by omega,by go_num,HR2'.out,HTX.out.trans HTS.out⟩
     case measure=>simp [intOf];omega
    ·have hje:j=n:=by omega
     subst hje;obtain ⟨w4,hw4⟩:∃ w4,w4=wr:=⟨_,rfl⟩;subst hw4;have hids:=rowsJ_len sp i j (by have:=HN.out;omega) (by omega);have HIDS:=lh hids;have HIE:=lh (show rowsJ sp i j=rowsJ sp i sp.length by rw [← HN.out]);generalize rowsJ sp i j=ids at HRX hids HIDS HIE;have HKQ:=lh hkq;have HGX4:=lh (HRX.out.lt);clear hkq hjn hids;go_wp2;go_loopw [63] (fun vj wq=>∃ (q:Nat) (vs:Value),q≤m∧vj=.int .i64 q∧Hid (OwnSm wq w4.heap.size vs ((sumJ mt i).take q))∧Hid ((sumJ mt i).take q=[]→vs=.slice none 0 0)∧Hid (Row wq gx 158 (cellsOf ids 1 vs))∧Hid (Turn w4 wq [gx])) (fun vj _=>m-(intOf vj).toNat)
     case atStart=>exact ⟨0,.slice none 0 0,Nat.zero_le _,rfl,Own.nil_ _ _ _ _ _,fun _=>rfl,HRX.out,Turn.refl _ _⟩
     case round =>
      clear HRX;obtain ⟨q,vs,hq,rfl,HOS,HON,HRX,HTY⟩:=hrel;have hkz:Keep w wr:=Turn.after HKQ.out HTY.out (fun b hb=>by simp at hb;have:=HGX.out;omega);have hslen:((sumJ mt i).take q).length=q:=by rw [List.length_take];simp [sumJ];have:=HMN.out;omega
      obtain ⟨As,cs,hvs⟩:=own_form HOS.out;rw [hslen] at hvs;have x9:wr.cell? ⟨gx,9,none⟩=some vs:=HRX.out.cell 9 _ (by unfold cellsOf;rw [List.getElem?_append_right (by simp [HIDS.out])];simp [HIDS.out]);subst hvs
      by_cases hqm:q<m
      ·have hqs:q<mt.length:=by have:=HMN.out;omega
       obtain ⟨bm,om,rfl,hc⟩:=(HM.out.keep hkz).at_ q hqs;have s0:=hc 0 _ rfl;have hrr:mt[q].xs.length=R:=HMR.out _ (List.getElem_mem _);have hij:i<mt[q].xs.length:=by omega
       obtain ⟨bj,oj,hAj,hbj,m0⟩:=sl_i64 ((HMA.out mt[q] (List.getElem_mem _)).keep hkz) i hij;have hgd:mt[q].xs.getD i 0=mt[q].xs[i]:=by rw [List.getD_eq_getElem?_getD,List.getElem?_eq_getElem hij];rfl
       have hbs:=block_lt_of_cell s0;simp only at hbs;rw [hrr,hAj,Nat.mul_one,Nat.add_zero] at s0;have HSTK:=lh (show (sumJ mt i).take (q+1)=(sumJ mt i).take q++[(mt[q].xs[i],mt[q].xs[i],mt[q].xs[i])] by
        rw [List.take_succ_eq_append_getElem (by simp [sumJ];exact hqs)];simp only [sumJ,List.getElem_map];rw [hgd])
       have HM0:=lh m0;generalize mt[q].xs[i]=z at m0 HSTK HM0;generalize mt[q].c=cj at s0;have hgx:=HRX.out.lt;have f9:=HRX.out.soft 9;have HKZ:=lh hkz;have HSLN:=lh hslen;clear hc hrr hij hgd hAj hqs hkz hslen;go_upto_region 19 with fail
       first|refine Zone.wp_region_m_gro 1 16 (by kernel_rfl) (by kernel_rfl) ?_|refine Zone.wp_region_m 1 16 (by kernel_rfl) (by kernel_rfl) ?_
       simp only [List.take_succ_cons,List.take_zero,List.drop_succ_cons,List.drop_zero]
       repeat (refine Zone.wpI_step _ (by rfl) (fun _=>by rfl) ?_)
       refine Zone.wpI_nil ?_
       repeat
        refine Zone.wpZ_step (fun K hK=>?_);go_simp
        first
        | (refine hK _ _ ?_;clear hK K)
        | (apply Exists.intro
           refine ⟨fun p=>?_,hK _ _ ?_⟩
           (fail)
           clear hK K)
       refine Zone.wpZ_free 82 (fun u W=>∃ q8:Nat,u=.slice (some ⟨q8,0,none⟩) 1 1∧Sl W 3 smC (some ⟨q8,0,none⟩) 1 [(z,z,z)]) rfl (fun _ W W' hk ⟨q8,h1,h2⟩=>⟨q8,h1,h2.keep hk⟩) ?_ ?_
       ·intro p;rw [Zone.lookFs_nil (by rfl)];simp only [Zone.fill];unfold Zone.goes;go_simp;exact ⟨sl_one _ (by decide) (by decide) (fun jj u hu=>by
         match jj,hu with
         | 0,hu=>cases hu;simp [go_sem]
         | 1,hu=>cases hu;simp [go_sem]
         | 2,hu=>cases hu;simp [go_sem]),Keep.alloc (Keep.refl _) _⟩
       refine Zone.wpZ_nil ?_;intro p;simp only [Zone.fill];rintro v82 ⟨q8,rfl,hs8⟩;have hk3:Keep wr (wr.gro p):=(by repeat first|exact kp0|apply kp1|apply kp2|apply kp3|apply kp4);generalize wr.gro p=w5 at hk3 hs8 ⊢;have HR5:=HRX.out.keep hk3;have HO5:=HOS.out.keep hk3;have HT5:=lh (HTY.out.trans (Turn.keep hk3 _));clear hk3 HRX HOS HTY x9 hgx f9 m0 s0;go_simp;refine wpList_app elt_sm sm_len sm_one rfl (.tmp 68) (.tmp 82) rfl (ys:=[(z,z,z)]) HO5 rfl rfl hs8 (by rw [HSLN.out];simp;omega) HT5.out.size ?_;intro v9 w9 hown9 hg9 _;obtain ⟨A9,c9,hv9⟩:=own_form hown9;rw [List.length_append,HSLN.out,List.length_singleton] at hv9;subst hv9;have hr9:Row w9 gx 158 (cellsOf ids 1 (.slice As q cs)):=row_grown HR5 hg9 (own_row_ne HO5 HR5 (by decide));have HNE:=lh (own_row_ne hown9 hr9 (by decide));have HT9:=lh (HT5.out.trans_up (Turn.of_grown hg9) fun b hb=>(HO5.lt b (by simpa using hb)).1);have HO9:=lh hown9;have HR9:=lh hr9;have x9:w9.cell? ⟨gx,9,none⟩=some (.slice As q cs):=hr9.cell 9 _ (by unfold cellsOf;rw [List.getElem?_append_right (by simp [HIDS.out])];simp [HIDS.out]);have f9:=hr9.soft 9;have hgx:=hr9.lt;clear hown9 hg9 hr9 HO5 HR5 HT5 hs8;go_simp;go_wp2
       (try rw [Zone.calm_normal])
       go_wp2;go_roundw
       case rel =>
        refine ⟨q+1,.slice A9 (q+1) c9,by omega,by go_num,?_,?_,?_,HT9.out.trans (Turn.set w9 ⟨gx,9,none⟩ (.slice A9 (q+1) c9))⟩
        ·show OwnSm _ _ _ _;rw [HSTK.out];exact Own.turn HO9.out (Turn.set w9 ⟨gx,9,none⟩ (.slice A9 (q+1) c9)) fun b hb=>by
          simp only [List.mem_singleton] at hb;subst hb;exact HNE.out
        ·show _→_;intro e;rw [HSTK.out] at e;simp at e
        ·show Row _ _ _ _;have h:=HR9.out.set 9 (.slice A9 (q+1) c9)
         rwa [cellsOf_put _ _ _ _ HIDS.out] at h
       case measure=>simp [intOf];omega
      ·have hqe:q=m:=by omega
       subst hqe;have hsall:(sumJ mt i).take q=sumJ mt i:=List.take_of_length_le (by simp [sumJ];have:=HMN.out;omega);rw [hsall] at HOS HON;obtain ⟨r,hr1,hr2,hr3,hr4,hr5,hrc⟩:=rc_of8 ids HIDS.out 1 As q cs;have hrx:=HRX.out;rw [← hrc] at hrx;have a1:rd10 wr gx 0=some (.agg #[.int .i64 r.i0,.int .i64 r.i1,.int .i64 r.i2,.int .i64 r.i3,.int .i64 r.i4,.int .i64 r.i5,.int .i64 r.i6,.int .i64 r.i7,.int .i64 r.n,.slice r.A r.l r.c]):=rd10_of (x:=r) fun jj u hu=>by simpa using hrx.cell jj u hu
       have hown0:OwnRc wr w2.heap.size (.slice Ao i co) (P.map fun p=>p.1):=(Own.turn HO3.out HTX.out (fun b hb e=>by simp only [List.mem_singleton] at hb;subst hb;have:=HOB.out b e;omega)).turn HTY.out (fun b hb e=>by simp only [List.mem_singleton] at hb;subst hb;have:=HOB.out b e;omega);have hrec0:RecsAt wr w2.heap.size P:=fun p hp=>((HP3.out p hp).turn HTX.out (fun b hb e=>by simp only [List.mem_singleton] at hb;subst hb;have:=HPB.out p hp b e;omega)).turn HTY.out (fun b hb e=>by simp only [List.mem_singleton] at hb;subst hb;have:=HPB.out p hp b e;omega);have hk0:Keep w2 wr:=Turn.after (Turn.after HK3.out HTX.out (fun b hb=>by simp only [List.mem_singleton] at hb;subst hb;exact HGX2.out)) HTY.out (fun b hb=>by simp only [List.mem_singleton] at hb;subst hb;exact HGX2.out);have hz4:w2.heap.size≤w4.heap.size:=Nat.le_trans HK3.out.size HTX.out.size;have hnewr:RecAt wr w2.heap.size r (recI sp mt i):=⟨by rw [hr1,HIE.out];rfl,hr2,by
        have h:=HOS.out.base_mono hz4;unfold Rc.sv;rw [hr3,hr4,hr5];exact h,fun e=>by
        have h:=HON.out e;injection h with h1 _ _;rw [hr3];exact h1⟩
       have HO0:=lh hown0;have HP0:=lh hrec0;have HK0:=lh hk0;have HNR:=lh hnewr;have hgx:=hrx.lt;clear hsall hrc hrx hown0 hrec0 hk0 hnewr hr1 hr2 hr3 hr4 hr5 hkz x9 hslen;go_wp2_with (at_builtin;refine hold ?_);refine unhold ?_;have hsl:Sl (wr.alloc (.cells #[.int .i64 r.i0,.int .i64 r.i1,.int .i64 r.i2,.int .i64 r.i3,.int .i64 r.i4,.int .i64 r.i5,.int .i64 r.i6,.int .i64 r.i7,.int .i64 r.n,.slice r.A r.l r.c] 158)) 10 Rc.cells (some ⟨wr.heap.size,0,none⟩) 1 [r]:=sl_one _ (by omega) (by omega) fun jj u hu=>(row_alloc wr 158 r.cells).cell jj u hu;have hke:Keep wr (wr.alloc (.cells #[.int .i64 r.i0,.int .i64 r.i1,.int .i64 r.i2,.int .i64 r.i3,.int .i64 r.i4,.int .i64 r.i5,.int .i64 r.i6,.int .i64 r.i7,.int .i64 r.n,.slice r.A r.l r.c] 158)):=Keep.alloc (Keep.refl _) _;generalize wr.alloc (.cells #[.int .i64 r.i0,.int .i64 r.i1,.int .i64 r.i2,.int .i64 r.i3,.int .i64 r.i4,.int .i64 r.i5,.int .i64 r.i6,.int .i64 r.i7,.int .i64 r.n,.slice r.A r.l r.c] 158)=w5 at hsl hke ⊢;have HO5:=lh (HO0.out.keep hke);have HP5:=lh (HP0.out.keep hke);have HK5:=lh (HK0.out.trans hke);have HNR5:=lh (HNR.out.keep hke);refine wpList_app elt_rc rc_len rc_one rfl (.tmp 86) (.tmp 88) rfl (ys:=[r]) HO5.out rfl rfl hsl (by rw [List.length_map,HPL.out];simp;omega) HK5.out.size ?_;intro v9 w9 hown9 hg9 _;have HO9:=lh hown9;have HG9:=lh (Turn.of_grown hg9);have HK9:=lh (HO5.out.kept hg9 HK5.out (Nat.le_refl _));clear hown9 hg9 hsl hke a1;go_wp2;go_roundw
       case rel =>
        have hmem:∀ b∈(Value.slice Ao i co).ownBlock.toList,(Value.slice Ao i co).ownBlock=some b:=fun b hb=>by simpa using hb
        refine ⟨i+1,P++[(r,recI sp mt i)],by omega,by go_num,?_,?_,?_,(fun e=>absurd e (Nat.succ_ne_zero i)),HK9.out⟩
        ·show OwnRc _ _ _ _;rw [List.map_append];exact HO9.out
        ·show RecsAt _ _ _;intro p hp
         rcases List.mem_append.1 hp with hp|hp
         ·exact RecsAt.turn HP5.out HO5.out (by decide) HG9.out hmem p hp
         ·rw [List.mem_singleton] at hp;subst hp;exact HNR5.out.turn HG9.out fun b hb=>own_own_ne HO5.out HNR5.out.own (by decide) b (hmem b hb)
        ·show List.map _ _=_;rw [List.map_append,HE.out,List.take_succ_eq_append_getElem (by simp [srcF];exact hlt)];simp [srcF]
       case measure=>simp [intOf];omega
  ·have hie:i=R:=by omega
   subst hie;have hall:(srcF sp mt i).take i=srcF sp mt i:=List.take_of_length_le (by simp [srcF]);rw [hall] at HE;have hsm:∀ p∈P,p.2.sums.length=m:=fun p hp=>by
    have h1:p.2∈P.map (fun p=>p.2):=List.mem_map_of_mem hp;rw [HE.out] at h1;obtain ⟨x,_,hx⟩:=List.mem_map.1 h1;rw [← hx,HMN.out];simp [recI,sumJ]
   have htog:Calls Tryz.prog 84 #[.slice Ao i co] wr fun e w'=>∃ v Q,e=.returned v∧OwnRc w' w2.heap.size v (Q.map fun p=>p.1)∧RecsAt w' w2.heap.size Q∧(Q.map fun p=>p.2)=Star.togF (srcF sp mt i)∧Keep w2 w':=by
    rcases Nat.eq_zero_or_pos i with h0|h0
    ·have hv:=HI0.out h0;subst h0;rw [hv];refine (tog_nil wr).mono ?_;rintro e w' ⟨rfl,hk⟩;exact ⟨_,[],rfl,Own.nil_ _ _ _ _ _,(fun _ h=>(by cases h)),rfl,HK.out.trans hk⟩
    ·obtain ⟨g,rfl,-⟩:=vown_some HO.out (by rw [List.length_map,HPL.out];exact h0);have hg:=(HO.out.lt g rfl).1;have h:=tog_any g co w2.heap.size m P wr (by rw [HPL.out];exact HO.out) HP.out (by rw [HPL.out];omega) (by omega) hsm;rw [HPL.out] at h;refine h.mono ?_;rintro e w' ⟨v,Q,rfl,h1,h2,_,h3,h4⟩;exact ⟨v,Q,rfl,h1.base_mono HK.out.size,h2.base HK.out.size,by rw [h3,HE.out],Turn.after HK.out h4 (fun b hb=>by simp only [List.mem_singleton] at hb;subst hb;exact hg)⟩
   have HTOG:=lh htog;clear hall hsm htog;go_wp2_with (go_at_call 84;refine hold ?_);refine unhold ?_;refine HTOG.out.mono ?_;rintro e w6 ⟨v,Q,rfl,hQo,hQr,hQs,hQk⟩;obtain ⟨Av,cv,hvv⟩:=own_form hQo;rw [List.length_map] at hvv;subst hvv;have hr6:=HR2.out.keep hQk;have hb2:w.heap.size≤w2.heap.size:=HK2.out.size;have hQl:Q.length≤i:=by
    have h1:=congrArg List.length hQs;rw [List.length_map] at h1;have h2:=Star.togF_len (srcF sp mt i);simp only [srcF,List.length_map,List.length_range] at h2;simp only [srcF] at h1;omega
   have hT7:=Turn.set w6 ⟨gt,3,none⟩ (.slice Av Q.length cv);have hS7:StarAt (w6.setCell ⟨gt,3,none⟩ (.slice Av Q.length cv)) gt w.heap.size n m leaf (.slice Av Q.length cv) (.slice none 0 0) Q []:=⟨hr6.set 3 _,HGT.out,(hQo.base_mono hb2).turn hT7 (fun b hb=>by simp only [List.mem_singleton] at hb;subst hb;exact own_row_ne hQo hr6 (by decide)),fun p hp=>((hQr p hp).base hb2).turn hT7 (fun b hb=>by simp only [List.mem_singleton] at hb;subst hb;exact own_row_ne (hQr p hp).own hr6 (by decide)),Own.nil_ _ _ _ _ _,(fun _ h=>(by cases h)),fun p hp=>by
    have h1:p.2∈Q.map (fun p=>p.2):=List.mem_map_of_mem hp;rw [hQs] at h1;refine (Star.togF_wide (k:=8) (m:=m) (fun x hx=>?_) p.2 h1).2;obtain ⟨y,_,rfl⟩:=List.mem_map.1 hx;exact ⟨by simp only [recI];exact rowsJ_len sp y sp.length (Nat.le_refl _) (by have:=HN.out;omega),by simp [recI,sumJ,HMN.out]⟩⟩
   have HS7:=lh hS7;have HKs:=lh (show Keep w (w6.setCell ⟨gt,3,none⟩ (.slice Av Q.length cv)) from Turn.after (HK2.out.trans hQk) hT7 (fun b hb=>by simp only [List.mem_singleton] at hb;subst hb;exact HGT.out));have HQS:=lh hQs;have hql0:Q.length=(Star.togF (srcF sp mt i)).length:=by rw [← hQs,List.length_map]
   have HQL0:=lh hql0;have x3:=hr6.cell 3 _ rfl;have f3:=hr6.soft 3;have hgt6:=hr6.lt;clear hQo hQr hQs hQk hr6 hS7 hT7 HTOG hql0;go_upto_region 24 with fail;have hz7:w.heap.size≤(w6.setCell ⟨gt,3,none⟩ (.slice Av Q.length cv)).heap.size:=HKs.out.size;generalize w6.setCell ⟨gt,3,none⟩ (.slice Av Q.length cv)=w7 at HS7 HKs hz7 ⊢;clear x3 f3 hgt6;have x3:=HS7.out.row.cell 3 _ rfl;have hgt7:=HS7.out.row.lt;have hfew:=Star.grow_few leaf n hl1 hn8 (Star.togF (srcF sp mt i)) (by rw [← HQL0.out];omega);have hcall:=grow_any leaf n m w.heap.size hn8 hl1 (by omega) n gt 0 0 Q.length false (.slice Av Q.length cv) (.slice none 0 0) Q [] w7 (by omega) HS7.out (Nat.zero_le _) (Nat.le_refl _) hz7 (by rw [HQS.out,HQL0.out];exact hfew.1) (by rw [HQS.out,HQL0.out];simpa using hfew.2);rw [HQS.out] at hcall;have HC:=lh hcall;clear hcall hfew;go_wp2_with (go_at_call 85;refine hold ?_);refine unhold ?_;refine HC.out.mono ?_;rintro e w8 ⟨rfl,vr',vn',P',NX,hS8,hP8,hN8,_,hG8⟩;have HS8:=lh hS8;have HP8:=lh hP8;have HN8:=lh hN8;have HK8:=lh (Gw.after HKs.out hG8 (Nat.le_refl _));clear hS8 hP8 hN8 hG8 x3 hgt7 HC;go_wp2;have hp8:=HP8.out;have hn8':=HN8.out;rw [HQL0.out] at hp8 hn8';rw [HN.out] at hp8 hn8' HS8;exact bodyPost_ret (v:=.tuple #[.pointer (some ⟨gt,0,none⟩),.int .i64 0]) (by simp [results,Tryz.results36,go_sem]) rfl ⟨gt,vr',vn',P',NX,rfl,by rw [HN.out];exact HS8.out,by rw [HN.out];exact hp8,by rw [HN.out];exact hn8',HK8.out⟩
end Go.Proofs.YtpkocnpamcchcaaGreatDoor
namespace Go.Proofs.YtpkocnpamcchcaaGreatDoor
open Go.RowKit Go.Zone Go.Shelf
attribute [local go_sem] zone stepZ fill lookFs goes goesUpon dropFs cell_gro frozen_gro size_gro lt_add drew_gro tape_gro keep_refl
attribute [local go_sem] lt_add2 lt_add3 lt_add4 lt_add5 lt_add6 lt_add7 lt_add8 lt_add9 lt_add10 lt_add11 lt_add12
structure StB(W w0:World)(bb:Nat)(bs:List UInt8):Prop where
 ex:∃ v,Row W bb 31 [v]∧OwnB W w0.heap.size v bs
 lo:w0.heap.size≤bb
 keep:Keep w0 W
def StT(W W':World):Prop:=∀ i T vs,T≠31→T≠5→Row W i T vs→Row W' i T vs
theorem StT.refl(W:World):StT W W:=fun _ _ _ _ _ h=>h
theorem StT.trans{W W1 W2:World}(h:StT W W1)(k:StT W1 W2):StT W W2:=fun i T vs h1 h2 hr=>k i T vs h1 h2 (h i T vs h1 h2 hr)
theorem StT.keep{W W':World}(h:Keep W W'):StT W W':=fun i T vs _ _ hr=>hr.keep h
theorem StB.keep'{W W' w0:World}{bb:Nat}{bs:List UInt8}(h:StB W w0 bb bs)(hk:Keep W W'):StB W' w0 bb bs:=by
 obtain ⟨⟨v,h1,h2⟩,h3,h4⟩:=h;exact ⟨⟨v,h1.keep hk,h2.keep hk⟩,h3,h4.trans hk⟩
def leI(x:Int)(s:Nat):List UInt8:=le (u64 x) s
theorem stput_any(x:Int)(s bb:Nat)(hs:s≤8)(bs:List UInt8)(w0 w:World)(h:StB w w0 bb bs)(hl:bs.length≤1000000000000) :
 Calls Tryz.prog 87 #[.int .i64 x,.int .i64 s,.pointer (some ⟨bb,0,none⟩)] w fun e w'=>e=.returned (.tuple #[])∧StB w' w0 bb (bs++leI x s)∧StT w w':=by
 have e0:IntKind.u64.wrap x=((u64 x:Nat):Int):=u64_eq x;have hx:u64 x<18446744073709551616:=by unfold u64;omega
 unfold leI;generalize u64 x=X at e0 hx ⊢;have H:=lh h;clear h;go_enter Tryz.func87,Tryz.ntmps87;go_wp2;go_loopw [5,9] (fun vx vi wr=>∃ (k m:Nat),k≤s∧m<18446744073709551616∧vi=.int .i64 k∧vx=.int .u64 m∧Hid (m=X/256^k)∧Hid (StB wr w0 bb (bs++le X k))∧Hid (StT w wr)) (fun _ vi _=>s-(intOf vi).toNat)
 case atStart=>exact ⟨0,X,Nat.zero_le _,hx,rfl,rfl,(by show _=_;simp),(by show StB _ _ _ _;simp only [le,List.append_nil];exact H.out),StT.refl _⟩
 case round =>
  clear H e0 hx;obtain ⟨k,m,hk,hm,rfl,rfl,HM,HP,HT⟩:=hrel;obtain ⟨⟨v,hrow,hown⟩,hlo,hkeep⟩:=HP.out;have HR:=lh hrow;have HO:=lh hown;have HLO:=lh hlo;have HKP:=lh hkeep;have x0:=hrow.cell 0 _ rfl;have hbb:=hrow.lt;obtain ⟨Av,cv,hv⟩:=own_form hown;subst hv;have hwz:=hkeep.size;clear hrow hown hlo hkeep HP;generalize hL:(bs++le X k).length=L at x0 HR HO;have HL:=lh hL;have hLb:L≤1000000000008:=by rw [← hL,List.length_append,le_len];omega
  clear hL
  by_cases hlt:k<s
  ·have f0:=HR.out.soft 0;go_wp2_with (at_builtin;refine hold ?_);refine unhold ?_;have hke:Keep wr (wr.alloc (.cells #[.int .u8 ((m:Int)%256)] 5)):=Keep.alloc (Keep.refl _) _;have HO3:OwnB (wr.alloc (.cells #[.int .u8 ((m:Int)%256)] 5)) w0.heap.size (.slice Av L cv) (bs++le X k):=HO.out.keep hke;refine wpList_app elt_u8 b8_len b8_one rfl (.tmp 11) (.tmp 14) rfl (ys:=[UInt8.ofNat m]) HO3 rfl rfl (sl_one _ (by omega) (by omega) (b8_at _ (by rw [u8_nat];simp [go_sem]))) (by rw [HL.out];simp;omega) (by simp;omega) ?_;intro v1 w2 hown2 hg2 _;obtain ⟨A2,c2,hv2⟩:=own_form hown2;rw [List.length_append,HL.out,List.length_singleton] at hv2;subst hv2;have hr2:Row w2 bb 31 [.slice Av L cv]:=row_grown (HR.out.keep hke) hg2 (own_row_ne HO3 (HR.out.keep hke) (by decide));have HT2:=lh (show StT wr w2 from fun i T vs h1 h2 hr=>row_grown (hr.keep hke) hg2 (own_row_ne HO3 (hr.keep hke) h2));have HK2:=lh (show Keep w0 w2 from Own.kept HO3 hg2 (HKP.out.trans hke) (Nat.le_refl _));have HO2:=lh hown2;have HR2:=lh hr2;have HNE:=lh (own_row_ne hown2 hr2 (by decide));clear x0 hbb f0;have x0:=hr2.cell 0 _ rfl;have f0:=hr2.soft 0;have hbb:=hr2.lt;clear hown2 hg2 hr2 HO3 hke;have hm2:m/256<18446744073709551616:=by omega
   go_wp2;go_roundw
   case rel =>
    refine ⟨k+1,m/256,by omega,hm2,by go_num,by go_num,(by show _=_;rw [HM.out,Nat.div_div_eq_div_mul,Nat.pow_succ]),⟨⟨.slice A2 (L+1) c2,HR2.out.set 0 _,?_⟩,HLO.out,?_⟩,?_⟩
    ·have h1:OwnB _ _ _ _:=Own.turn HO2.out (Turn.set w2 ⟨bb,0,none⟩ (.slice A2 (L+1) c2)) fun i hi=>by
      simp only [List.mem_singleton] at hi;subst hi;exact HNE.out
     rw [HM.out,List.append_assoc] at h1;exact h1
    ·exact HK2.out.setCell HLO.out _
    ·exact (HT.out.trans HT2.out).trans fun i T vs h1 h2 hr=>hr.other 0 _ (fun e=>by
      subst e;exact row_ne hr HR2.out h1 rfl)
   case measure=>simp [intOf];omega
  ·have hks:k=s:=by omega
   subst hks;have hend:StB wr w0 bb (bs++le X k):=⟨⟨.slice Av L cv,HR.out,HO.out⟩,HLO.out,HKP.out⟩;have HEND:=lh hend;clear hend;go_wp2;go_end0;exact ⟨rfl,HEND.out,HT.out⟩
end Go.Proofs.YtpkocnpamcchcaaGreatDoor
