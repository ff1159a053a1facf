/- Parts of the proof. -/
import Derived.Test.YtpkocnpamcchcaaGreatDoorK27
set_option maxRecDepth 100000
set_option maxHeartbeats 4000000
set_option linter.unusedSimpArgs false
set_option linter.unusedVariables false
set_option linter.unnecessarySimpa false
namespace Go.Proofs.YtpkocnpamcchcaaGreatDoor
open Go.RowKit Go.Zone Go.Shelf
attribute [local go_sem] zone stepZ fill lookFs goes goesUpon dropFs cell_gro frozen_gro size_gro lt_add drew_gro tape_gro keep_refl
attribute [local go_sem] lt_add2 lt_add3 lt_add4 lt_add5 lt_add6 lt_add7 lt_add8 lt_add9 lt_add10 lt_add11 lt_add12
attribute [local go_sem ↓] to_fastL to_fastS
attribute [local go_sem] fast_load fast_store rd10_drew rd10_drewN rd10_gro thB_drew thB_set thB_drewN thB_gro size_setCells
structure VCmpOk(f:Nat)(lb:Array Value)(cm:Rc→Rc→Int)(M:Rc→Prop)(w0:World)(g:Nat):Prop where
 enter:∀ args w,(callFunc f args).run Tryz.prog w=.ok (.enter f args) w
 call:∀ (W:World) (x y:Rc),M x→M y→Turn w0 W [g]→Calls Tryz.prog f (#[x.v,y.v]++lb) W fun e w'=>e=.returned (.int .i64 (cm x y))∧Keep W w'
def vltC(cm:Rc→Rc→Int)(x y:Rc):Bool:=decide (cm x y<0)
theorem vinss_any(f:Nat)(lb:Array Value)(cm:Rc→Rc→Int)(M:Rc→Prop)(w0:World)(g c base a b N:Nat)(xs:List Rc)(w:World)(ho:Sym.Ord (vltC cm))(hc:VCmpOk f lb cm M w0 g)(hM:∀ x∈xs,M x)(ht:Turn w0 w [g])(hN:xs.length=N)(h:OwnRc w base (.slice (some ⟨g,0,none⟩) N c) xs)(hab:a≤b)(hb:b≤N)(hl:N≤1000000000) :
 Calls Tryz.prog 220 #[.slice (some ⟨g,0,none⟩) N c,.int .i64 a,.int .i64 b,.func (.func f) #[] lb] w fun e w'=>e=.returned (.tuple #[])∧∃ ys,Sym.Mrg (vltC cm) xs a b ys∧OwnRc w' base (.slice (some ⟨g,0,none⟩) N c) ys∧Turn w w' [g]:=by
 have H:=lh h;have HC:=lh hc.call;have eg:=hc.enter;have HM:=lh hM;have HT0:=lh ht;have HOrd:=lh ho;have e0:IntKind.i64.wrap ((a:Int)+1)=((a+1:Nat):Int):=by rw [IntWalk.i64_in _ ⟨by omega,by omega⟩];omega
 clear h hc hM ht ho;go_enter Tryz.func220,Tryz.ntmps220;go_wp2;go_loopw [8] (fun vi wr=>∃ (i:Nat) (ys:List Rc),vi=.int .i64 i∧a+1≤i∧i≤b+1∧Hid (Sym.Mrg (vltC cm) xs a (min i b) ys)∧Hid (OwnRc wr base (.slice (some ⟨g,0,none⟩) N c) ys)∧Hid (Turn w wr [g])) (fun vi _=>b+1-(intOf vi).toNat)
 case atStart =>
  refine ⟨a+1,xs,by go_num,Nat.le_refl _,by omega,?_,H.out,Turn.refl _ _⟩;show Sym.Mrg _ _ _ _ _;refine Sym.Mrg.refl ?_
  rcases Nat.eq_or_lt_of_le hab with e|e
  ·rw [show min (a+1) b=a by omega];exact Sym.seg_srt_nil _ _
  ·rw [show min (a+1) b=a+1 by omega];exact Sym.seg_srt_one _ _ (by omega)
 case round =>
  clear H e0;obtain ⟨i,ys,rfl,hi1,hi2,HG,HO,HT⟩:=hrel
  by_cases hlt:i<b
  ·have hlen:ys.length=N:=HG.out.len.trans hN;have HLEN:=lh hlen;have hiN:i<ys.length:=by omega
   have HIN:=lh hiN;have HMY:=lh (HG.out.mem HOrd.out (by omega) HM.out);have hpos:0<a+1:=Nat.succ_pos _;clear hlen hiN;go_wp2;go_loopw [9] (fun vj wq=>∃ j:Nat,vj=.int .i64 j∧a≤j∧j≤i∧Hid (j=i∨∃ h:j<ys.length,vltC cm (ys[i]'HIN.out) ys[j]=true)∧Hid (OwnRc wq base (.slice (some ⟨g,0,none⟩) N c) (Sym.rotL ys j i (i+1)))∧Hid (Turn w wq [g])) (fun vj _=>(intOf vj).toNat)
   case atStart=>exact ⟨i,rfl,by omega,Nat.le_refl _,.inl rfl,(by show OwnRc _ _ _ _;rw [Sym.rot_self];exact HO.out),HT.out⟩
   case round =>
    clear HO HT;obtain ⟨j,rfl,hj1,hj2,HGT,HO,HT⟩:=hrel;have hstop:(j=a∨∃ h:j-1<ys.length,vltC cm (ys[i]'HIN.out) ys[j-1]=false)→Sym.Mrg (vltC cm) xs a (i+1) (Sym.rotL ys j i (i+1)):=fun hs=>by
     have hL:=HG.out.stb.1;rw [show min i b=i by omega] at hL;have h1:=Sym.ins_left HOrd.out hj1 hj2 HIN.out hL hs HGT.out;have h0:=HG.out;rw [show min i b=i by omega] at h0;exact h0.more h1 (by omega) (by omega)
    have HST:=lh hstop;clear hstop
    by_cases hja:a<j
    ·have hin:=HIN.out;have hle:=HLEN.out;obtain ⟨hk1,hx1⟩:=Sym.rot_at ys j i hj2 hin;obtain ⟨q,hq⟩:∃ q,q+1=j:=⟨j-1,by omega⟩;have hjq:j-1=q:=by omega
     obtain ⟨hk2,hx2⟩:=Sym.rot_before ys j i q hj2 hin (by omega);have hj3:q<ys.length:=by omega
     have hrl:(Sym.rotL ys j i (i+1)).length=N:=by rw [Sym.rotL_len ys j i (i+1) hj2 (by omega) (by omega)];exact hle
     have hdn:=Sym.rot_down' ys j q i hq hj2 hin;have HOW:=lh (fun (W:World) (hW:Keep wr W)=>(show (rd10 W g (j*10)=some ys[i].v∧thB W g (j*10)∧g<W.heap.size)∧(rd10 W g (q*10)=some ys[q].v∧thB W g (q*10))∧OwnRc ((W.setCells g (j*10) ys[q].cells).setCells g (q*10) ys[i].cells) base (.slice (some ⟨g,0,none⟩) N c) (Sym.rotL ys q i (i+1)) from by
      have ho:=HO.out.keep hW;obtain ⟨a0,a1,a2⟩:=vownr_at ho hrl j hk1;obtain ⟨b0,b1,_⟩:=vownr_at ho hrl q hk2;have ho3:=vownr_swp ho hrl j q hk1 hk2;rw [hx1] at a0 ho3;rw [hx2] at b0 ho3;rw [hdn] at ho3;exact ⟨⟨a0,a1,a2⟩,⟨b0,b1⟩,ho3⟩))
     have HCA:=lh (fun W (hW:Turn w0 W [g])=>HC.out W ys[i] ys[q] (HMY.out _ (List.getElem_mem _)) (HMY.out _ (List.getElem_mem _)) hW);have HST2:=lh (fun hz:cm ys[i] ys[q]<0=>(show q=i∨∃ h:q<ys.length,vltC cm (ys[i]'HIN.out) ys[q]=true from .inr ⟨by omega,decide_eq_true hz⟩));have HST3:=lh (fun hz:¬ cm ys[i] ys[q]<0=>HST.out (.inr ⟨by omega,by simp only [hjq];exact decide_eq_false hz⟩));have HTW:=lh (HT0.out.trans HT.out);generalize cm ys[i] ys[q]=z at HCA HST2 HST3;generalize hxx:ys[i]=x at HOW HCA;have HXX:=lh hxx;clear hxx;generalize ys[q]=y at HOW HCA;clear hdn hx1 hx2 hk1 hk2 hrl HST HC;have e1:IntKind.i64.wrap ((j:Int)-1)=(q:Int):=by rw [IntWalk.i64_in _ ⟨by omega,by omega⟩];omega
     have hq2:q<N:=by omega
     have HQ3:=lh hq;have hjN:j<N:=by omega
     clear hq hjq hle hj3;obtain ⟨⟨a0,a1,a2⟩,⟨b0,b1⟩,_⟩:=HOW.out wr (Keep.refl _)
     by_cases hz:z<0
     ·go_wp2
      first|refine Zone.wp_region_all_gro (by kernel_rfl) (by kernel_rfl) ?_|refine Zone.wp_region_all (by kernel_rfl) (by kernel_rfl) ?_
      repeat
       refine Zone.wpZ_step (fun K hK=>?_);go_simp
       first
       | (refine hK _ _ ?_;clear hK K)
       | (apply Exists.intro
          refine ⟨fun p=>?_,hK _ _ ?_⟩
          ((go_at_fn f;exact Zone.zc (HCA.out _ (HTW.out.trans (Turn.keep (by repeat first|exact kp0|apply kp1|apply kp2|apply kp3|apply kp4) _)))))
          clear hK K)
      refine Zone.wpZ_nil ?_;intro p;simp only [Zone.fill];have hk1:Keep wr (wr.gro p):=(by repeat first|exact kp0|apply kp1|apply kp2|apply kp3|apply kp4);generalize wr.gro p=w1 at hk1 ⊢;have HK1:=lh hk1;clear a0 a1 a2 b0 b1 hk1;obtain ⟨⟨a0,a1,a2⟩,⟨b0,b1⟩,ho3⟩:=HOW.out w1 HK1.out;have HO3:=lh ho3;have HG2:=lh (Turn.setR2 w1 g j q y x);have HK3:=lh (keep_set2d w1 g j q y x);have hne:j≠q:=by have:=HQ3.out;omega
      have HZ:=lh (HST2.out hz);clear ho3 HST2 HST3 HOW HCA;go_wp2;go_region;generalize (w1.drew.setCells g (j*10) y.cells).setCells g (q*10) x.cells=w3 at HK3 ⊢;go_wp2;go_roundw
      case rel=>obtain rfl:=HXX.out;exact ⟨q,rfl,by have:=HQ3.out;omega,by have:=HQ3.out;omega,HZ.out,HO3.out.keep HK3.out,HT.out.trans ((Turn.keep HK1.out _).trans (HG2.out.trans (Turn.keep HK3.out _)))⟩
      case measure=>have:=HQ3.out;simp [intOf];omega
     ·have hdz:decide (z<0)=false:=decide_eq_false hz;go_wp2
      first|refine Zone.wp_region_all_gro (by kernel_rfl) (by kernel_rfl) ?_|refine Zone.wp_region_all (by kernel_rfl) (by kernel_rfl) ?_
      repeat
       refine Zone.wpZ_step (fun K hK=>?_);go_simp
       first
       | (refine hK _ _ ?_;clear hK K)
       | (apply Exists.intro
          refine ⟨fun p=>?_,hK _ _ ?_⟩
          ((go_at_fn f;exact Zone.zc (HCA.out _ (HTW.out.trans (Turn.keep (by repeat first|exact kp0|apply kp1|apply kp2|apply kp3|apply kp4) _)))))
          clear hK K)
      refine Zone.wpZ_nil ?_;intro p;simp only [Zone.fill];have hk1:Keep wr (wr.gro p):=(by repeat first|exact kp0|apply kp1|apply kp2|apply kp3|apply kp4);generalize wr.gro p=w1 at hk1 ⊢;have HK1:=lh hk1;have HZ:=lh (HST3.out hz);clear a0 a1 a2 b0 b1 hk1 HST2 HST3 HOW HCA hz;go_wp2;go_roundw
      case rel=>exact ⟨i+1,_,by go_num,by omega,by omega,(by show Sym.Mrg _ _ _ _ _;rw [show min (i+1) b=i+1 by omega];exact HZ.out),HO.out.keep HK1.out,HT.out.trans (Turn.keep HK1.out _)⟩
      case measure=>simp [intOf];omega
    ·have hjj:j=a:=by omega
     have HST2:=lh (HST.out (.inl hjj));clear HST hja;subst hjj;go_wp2
     first|refine Zone.wp_region_all_gro (by kernel_rfl) (by kernel_rfl) ?_|refine Zone.wp_region_all (by kernel_rfl) (by kernel_rfl) ?_
     repeat
      refine Zone.wpZ_step (fun K hK=>?_);go_simp
      first
      | (refine hK _ _ ?_;clear hK K)
      | (apply Exists.intro
         refine ⟨fun p=>?_,hK _ _ ?_⟩
         (fail)
         clear hK K)
     refine Zone.wpZ_nil ?_;intro p;simp only [Zone.fill];have hk1:Keep wr (wr.gro p):=(by repeat first|exact kp0|apply kp1|apply kp2|apply kp3|apply kp4);generalize wr.gro p=w1 at hk1 ⊢;have HK1:=lh hk1;clear hk1;go_wp2;go_roundw
     case rel=>exact ⟨i+1,_,by go_num,by omega,by omega,(by show Sym.Mrg _ _ _ _ _;rw [show min (i+1) b=i+1 by omega];exact HST2.out),HO.out.keep HK1.out,HT.out.trans (Turn.keep HK1.out _)⟩
     case measure=>simp [intOf];omega
  ·have hib:min i b=b:=by omega
   rw [hib] at HG;clear hib;go_wp2;go_end0;exact ⟨rfl,ys,HG.out,HO.out,HT.out⟩
theorem vsyml_any(f:Nat)(lb:Array Value)(cm:Rc→Rc→Int)(M:Rc→Prop)(w0:World)(g c base a m b N:Nat)(xs:List Rc)(w:World)(ho:Sym.Ord (vltC cm))(hc:VCmpOk f lb cm M w0 g)(hM:∀ x∈xs,M x)(ht:Turn w0 w [g])(hN:xs.length=N)(h:OwnRc w base (.slice (some ⟨g,0,none⟩) N c) xs)(ham:m=a+1)(hmb:m<b)(hb:b≤N)(hl:N≤1000000000)(hR:Sym.Srt (vltC cm) (Sym.seg xs m b)) :
 Calls Tryz.prog 221 #[.slice (some ⟨g,0,none⟩) N c,.int .i64 a,.int .i64 m,.int .i64 b,.func (.func f) #[] lb] w fun e w'=>e=.returned (.tuple #[])∧∃ ys,Sym.Mrg (vltC cm) xs a b ys∧OwnRc w' base (.slice (some ⟨g,0,none⟩) N c) ys∧Turn w w' [g]:=by
 have H:=lh h;have HC:=lh hc.call;have eg:=hc.enter;have HM:=lh hM;have HT0:=lh ht;have HOrd:=lh ho;have HRR:=lh hR;have HAM:=lh ham;have HN:=lh hN;have e0:IntKind.i64.wrap ((m:Int)-(a:Int))=1:=by rw [IntWalk.i64_in _ ⟨by omega,by omega⟩];omega
 have ha1:a<N:=by omega
 have hm1:0<m:=by omega
 have HA1:=lh (show a<xs.length by omega);clear h hc hM ht ho hR hN ham;go_enter Tryz.func221,Tryz.ntmps221;go_wp2;go_loopw [10,11] (fun vi vj wr=>∃ i j:Nat,vi=.int .i64 i∧vj=.int .i64 j∧m≤i∧i≤j∧j≤b∧Hid (i=m∨∃ h:i-1<xs.length,vltC cm xs[i-1] (xs[a]'HA1.out)=true)∧Hid (j=b∨∃ h:j<xs.length,vltC cm xs[j] (xs[a]'HA1.out)=false)∧Hid (Keep w wr)) (fun vi vj _=>(intOf vj).toNat-(intOf vi).toNat)
 case atStart=>exact ⟨m,b,rfl,rfl,Nat.le_refl _,by omega,Nat.le_refl _,.inl rfl,.inl rfl,Keep.refl _⟩
 case round =>
  obtain ⟨i,j,rfl,rfl,hi1,hij,hj,HI,HJ,HK⟩:=hrel
  by_cases hlt:i<j
  ·obtain ⟨p,hp⟩:∃ p:Nat,p=(i+j)/2:=⟨_,rfl⟩;have hme:((i:Int)+(j:Int))/2=(p:Int):=by omega
   have hp1:i≤p:=by omega
   have hp2:p<j:=by omega
   have hpN:p<N:=by omega
   have hpx:p<xs.length:=by have:=HN.out;omega
   obtain ⟨a0,a1,a2⟩:=vownr_at (H.out.keep HK.out) HN.out p hpx;obtain ⟨b0,b1,_⟩:=vownr_at (H.out.keep HK.out) HN.out a HA1.out;have HCA:=lh (fun W (hW:Turn w0 W [g])=>HC.out W xs[p] (xs[a]'HA1.out) (HM.out _ (List.getElem_mem _)) (HM.out _ (List.getElem_mem _)) hW);have HS2:=lh (fun hz:cm xs[p] (xs[a]'HA1.out)<0=>(show p+1=m∨∃ h:p+1-1<xs.length,vltC cm xs[p+1-1] (xs[a]'HA1.out)=true from .inr ⟨hpx,decide_eq_true hz⟩));have HS3:=lh (fun hz:¬ cm xs[p] (xs[a]'HA1.out)<0=>(show p=b∨∃ h:p<xs.length,vltC cm xs[p] (xs[a]'HA1.out)=false from .inr ⟨hpx,decide_eq_false hz⟩));have HTW:=lh (HT0.out.trans (Turn.keep HK.out _));generalize cm xs[p] (xs[a]'HA1.out)=z at HCA HS2 HS3;generalize hxx:xs[p]=x at a0 HCA;generalize hyy:(xs[a]'HA1.out)=y at b0 HCA;have HXX:=lh hxx;have HYY:=lh hyy;clear hxx hyy hp
   by_cases hz:z<0
   ·have HZ:=lh (HS2.out hz);clear HS2 HS3;go_wp2
    first|refine Zone.wp_region_all_gro (by kernel_rfl) (by kernel_rfl) ?_|refine Zone.wp_region_all (by kernel_rfl) (by kernel_rfl) ?_
    repeat
     refine Zone.wpZ_step (fun K hK=>?_);go_simp
     first
     | (refine hK _ _ ?_;clear hK K)
     | (apply Exists.intro
        refine ⟨fun p=>?_,hK _ _ ?_⟩
        ((go_at_fn f;exact Zone.zc (HCA.out _ (HTW.out.trans (Turn.keep (by repeat first|exact kp0|apply kp1|apply kp2|apply kp3|apply kp4) _)))))
        clear hK K)
    refine Zone.wpZ_nil ?_;intro p5;simp only [Zone.fill];go_wp2;go_roundw
    case rel=>obtain rfl:=HYY.out;exact ⟨p+1,j,by go_num,rfl,by omega,by omega,hj,HZ.out,HJ.out,HK.out.trans (by repeat first|exact kp0|apply kp1|apply kp2|apply kp3|apply kp4)⟩
    case measure=>simp [intOf];omega
   ·have HZ:=lh (HS3.out hz);have hdz:decide (z<0)=false:=decide_eq_false hz;clear HS2 HS3;go_wp2
    first|refine Zone.wp_region_all_gro (by kernel_rfl) (by kernel_rfl) ?_|refine Zone.wp_region_all (by kernel_rfl) (by kernel_rfl) ?_
    repeat
     refine Zone.wpZ_step (fun K hK=>?_);go_simp
     first
     | (refine hK _ _ ?_;clear hK K)
     | (apply Exists.intro
        refine ⟨fun p=>?_,hK _ _ ?_⟩
        ((go_at_fn f;exact Zone.zc (HCA.out _ (HTW.out.trans (Turn.keep (by repeat first|exact kp0|apply kp1|apply kp2|apply kp3|apply kp4) _)))))
        clear hK K)
    refine Zone.wpZ_nil ?_;intro p5;simp only [Zone.fill];go_wp2;go_roundw
    case rel=>obtain rfl:=HYY.out;exact ⟨i,p,rfl,rfl,hi1,hp1,by omega,HI.out,HZ.out,HK.out.trans (by repeat first|exact kp0|apply kp1|apply kp2|apply kp3|apply kp4)⟩
    case measure=>simp [intOf];omega
  ·have hji:j=i:=by omega
   subst hji;clear hij;obtain ⟨q,hq⟩:∃ q,q+1=j:=⟨j-1,by omega⟩;have e1:IntKind.i64.wrap ((j:Int)-1)=(q:Int):=by rw [IntWalk.i64_in _ ⟨by omega,by omega⟩];omega
   have HQ:=lh hq;have HE:=lh (show Sym.Mrg (vltC cm) xs a b (Sym.rotL xs a (a+1) j) from by
    have hA:=HAM.out;have hR:=HRR.out;have hI:=HI.out;rw [hA] at hR hI;exact Sym.ins_right HOrd.out (by omega) hj (by have:=HN.out;omega) hR HA1.out hI HJ.out)
   have hqa:a≤q:=by have:=HAM.out;omega
   have hqN:q<N:=by omega
   clear hq;go_wp2;go_loopw [13] (fun vk wr=>∃ k:Nat,vk=.int .i64 k∧a≤k∧k≤q∧Hid (OwnRc wr base (.slice (some ⟨g,0,none⟩) N c) (Sym.rotL xs a (a+1) (k+1)))∧Hid (Turn w wr [g])) (fun vk _=>q-(intOf vk).toNat)
   case atStart=>exact ⟨a,rfl,Nat.le_refl _,hqa,(by show OwnRc _ _ _ _;rw [Sym.rotL_right xs a (a+1) (by omega)];exact H.out.keep HK.out),Turn.keep HK.out _⟩
   case round =>
    clear H HI HJ HK;obtain ⟨k,rfl,hk1,hk2,HO,HT⟩:=hrel
    by_cases hkq:k<q
    ·have hrl:(Sym.rotL xs a (a+1) (k+1)).length=N:=by have:=HN.out;have:=HA1.out;rw [Sym.rotL_len xs a (a+1) (k+1) (by omega) (by omega) (by omega)];omega
     have hup:=Sym.rot_up xs a k hk1 (by have:=HN.out;omega);have hkl:k<(Sym.rotL xs a (a+1) (k+1)).length:=by omega
     have hkl2:k+1<(Sym.rotL xs a (a+1) (k+1)).length:=by omega
     obtain ⟨k1,hk1e⟩:∃ k1,k1=k+1:=⟨_,rfl⟩
     replace hkl2:k1<(Sym.rotL xs a (a+1) (k+1)).length:=by omega
     have e1:IntKind.i64.wrap ((k:Int)+1)=(k1:Int):=by rw [IntWalk.i64_in _ ⟨by omega,by omega⟩];omega
     obtain ⟨a0,a1,a2⟩:=vownr_at HO.out hrl k hkl;obtain ⟨b0,b1,_⟩:=vownr_at HO.out hrl k1 hkl2;have ho3:=vownr_swp HO.out hrl k k1 hkl hkl2;have hsw:Sym.swp (Sym.rotL xs a (a+1) (k+1)) k k1=Sym.rotL xs a (a+1) (k+1+1):=by rw [hk1e];exact hup
     rw [hsw] at ho3;clear hsw;have HO3:=lh ho3;generalize (Sym.rotL xs a (a+1) (k+1))[k]=x at a0 HO3;generalize (Sym.rotL xs a (a+1) (k+1))[k1]=y at b0 HO3;have HG2:=lh (Turn.setR2 wr g k k1 y x);have HK3:=lh (keep_set2d wr g k k1 y x);have hne:k≠k1:=by omega
     have hk1N:k1<N:=by omega
     have HK1E:=lh hk1e;clear hk1e ho3 hup hkl hkl2 hrl;go_wp2;go_region;generalize (wr.drew.setCells g (k*10) y.cells).setCells g (k1*10) x.cells=w3 at HK3 ⊢;go_wp2;go_roundw
     case rel=>exact ⟨k+1,by have:=HK1E.out;(first|go_num|(subst this;go_num)),by omega,by omega,HO3.out.keep HK3.out,HT.out.trans (HG2.out.trans (Turn.keep HK3.out _))⟩
     case measure=>have:=HK1E.out;simp [intOf];omega
    ·have hkk:k=q:=by omega
     subst hkk;rw [HQ.out] at HO;go_wp2;exact bodyPost_ret (v:=.tuple #[]) (by simp [results,Tryz.results221,go_sem]) rfl ⟨rfl,_,HE.out,HO.out,HT.out⟩
theorem vsymr_any(f:Nat)(lb:Array Value)(cm:Rc→Rc→Int)(M:Rc→Prop)(w0:World)(g c base a m b N:Nat)(xs:List Rc)(w:World)(ho:Sym.Ord (vltC cm))(hc:VCmpOk f lb cm M w0 g)(hM:∀ x∈xs,M x)(ht:Turn w0 w [g])(hN:xs.length=N)(h:OwnRc w base (.slice (some ⟨g,0,none⟩) N c) xs)(ham:a+1<m)(hmb:b=m+1)(hb:b≤N)(hl:N≤1000000000)(hL:Sym.Srt (vltC cm) (Sym.seg xs a m)) :
 Calls Tryz.prog 221 #[.slice (some ⟨g,0,none⟩) N c,.int .i64 a,.int .i64 m,.int .i64 b,.func (.func f) #[] lb] w fun e w'=>e=.returned (.tuple #[])∧∃ ys,Sym.Mrg (vltC cm) xs a b ys∧OwnRc w' base (.slice (some ⟨g,0,none⟩) N c) ys∧Turn w w' [g]:=by
 have H:=lh h;have HC:=lh hc.call;have eg:=hc.enter;have HM:=lh hM;have HT0:=lh ht;have HOrd:=lh ho;have HLL:=lh hL;have HBM:=lh hmb;have HN:=lh hN;obtain ⟨u,hu⟩:∃ u,u=m-a:=⟨_,rfl⟩;have e0:IntKind.i64.wrap ((m:Int)-(a:Int))=(u:Int):=by rw [IntWalk.i64_in _ ⟨by omega,by omega⟩];omega
 have hu1:¬ ((u:Int)=1):=by omega
 have hu2:((u:Int)==1)=false:=by simp [hu1]
 have eb:IntKind.i64.wrap ((b:Int)-(m:Int))=1:=by rw [IntWalk.i64_in _ ⟨by omega,by omega⟩];omega
 have hmN:m<N:=by omega
 have HA1:=lh (show m<xs.length by omega);clear h hc hM ht ho hL hN hmb hu;go_enter Tryz.func221,Tryz.ntmps221;go_wp2;go_loopw [14,15] (fun vi vj wr=>∃ i j:Nat,vi=.int .i64 i∧vj=.int .i64 j∧a≤i∧i≤j∧j≤m∧Hid (i=a∨∃ h:i-1<xs.length,vltC cm (xs[m]'HA1.out) xs[i-1]=false)∧Hid (j=m∨∃ h:j<xs.length,vltC cm (xs[m]'HA1.out) xs[j]=true)∧Hid (Keep w wr)) (fun vi vj _=>(intOf vj).toNat-(intOf vi).toNat)
 case atStart=>exact ⟨a,m,rfl,rfl,Nat.le_refl _,by omega,Nat.le_refl _,.inl rfl,.inl rfl,Keep.refl _⟩
 case round =>
  obtain ⟨i,j,rfl,rfl,hi1,hij,hj,HI,HJ,HK⟩:=hrel
  by_cases hlt:i<j
  ·obtain ⟨p,hp⟩:∃ p:Nat,p=(i+j)/2:=⟨_,rfl⟩;have hme:((i:Int)+(j:Int))/2=(p:Int):=by omega
   have hp1:i≤p:=by omega
   have hp2:p<j:=by omega
   have hpN:p<N:=by omega
   have hpx:p<xs.length:=by have:=HN.out;omega
   obtain ⟨a0,a1,a2⟩:=vownr_at (H.out.keep HK.out) HN.out p hpx;obtain ⟨b0,b1,_⟩:=vownr_at (H.out.keep HK.out) HN.out m HA1.out;have HCA:=lh (fun W (hW:Turn w0 W [g])=>HC.out W (xs[m]'HA1.out) xs[p] (HM.out _ (List.getElem_mem _)) (HM.out _ (List.getElem_mem _)) hW);have HS2:=lh (fun hz:cm (xs[m]'HA1.out) xs[p]<0=>(show p=m∨∃ h:p<xs.length,vltC cm (xs[m]'HA1.out) xs[p]=true from .inr ⟨hpx,decide_eq_true hz⟩));have HS3:=lh (fun hz:¬ cm (xs[m]'HA1.out) xs[p]<0=>(show p+1=a∨∃ h:p+1-1<xs.length,vltC cm (xs[m]'HA1.out) xs[p+1-1]=false from .inr ⟨hpx,decide_eq_false hz⟩));have HTW:=lh (HT0.out.trans (Turn.keep HK.out _));generalize cm (xs[m]'HA1.out) xs[p]=z at HCA HS2 HS3;generalize hxx:xs[p]=x at a0 HCA;generalize hyy:(xs[m]'HA1.out)=y at b0 HCA;have HXX:=lh hxx;have HYY:=lh hyy;clear hxx hyy hp
   by_cases hz:z<0
   ·have HZ:=lh (HS2.out hz);clear HS2 HS3;go_wp2
    first|refine Zone.wp_region_all_gro (by kernel_rfl) (by kernel_rfl) ?_|refine Zone.wp_region_all (by kernel_rfl) (by kernel_rfl) ?_
    repeat
     refine Zone.wpZ_step (fun K hK=>?_);go_simp
     first
     | (refine hK _ _ ?_;clear hK K)
     | (apply Exists.intro
        refine ⟨fun p=>?_,hK _ _ ?_⟩
        ((go_at_fn f;exact Zone.zc (HCA.out _ (HTW.out.trans (Turn.keep (by repeat first|exact kp0|apply kp1|apply kp2|apply kp3|apply kp4) _)))))
        clear hK K)
    refine Zone.wpZ_nil ?_;intro p5;simp only [Zone.fill];go_wp2;go_roundw
    case rel =>
     obtain rfl:=HYY.out;exact ⟨i,p,rfl,rfl,hi1,hp1,by omega,HI.out,HZ.out,HK.out.trans (by repeat first|exact kp0|apply kp1|apply kp2|apply kp3|apply kp4)⟩
    case measure=>simp [intOf];omega
   ·have HZ:=lh (HS3.out hz);have hdz:decide (z<0)=false:=decide_eq_false hz;clear HS2 HS3;go_wp2
    first|refine Zone.wp_region_all_gro (by kernel_rfl) (by kernel_rfl) ?_|refine Zone.wp_region_all (by kernel_rfl) (by kernel_rfl) ?_
    repeat
     refine Zone.wpZ_step (fun K hK=>?_);go_simp
     first
     | (refine hK _ _ ?_;clear hK K)
     | (apply Exists.intro
        refine ⟨fun p=>?_,hK _ _ ?_⟩
        ((go_at_fn f;exact Zone.zc (HCA.out _ (HTW.out.trans (Turn.keep (by repeat first|exact kp0|apply kp1|apply kp2|apply kp3|apply kp4) _)))))
        clear hK K)
    refine Zone.wpZ_nil ?_;intro p5;simp only [Zone.fill];go_wp2;go_roundw
    case rel =>
     obtain rfl:=HYY.out;exact ⟨p+1,j,by go_num,rfl,by omega,by omega,hj,HZ.out,HJ.out,HK.out.trans (by repeat first|exact kp0|apply kp1|apply kp2|apply kp3|apply kp4)⟩
    case measure=>simp [intOf];omega
  ·have hji:j=i:=by omega
   subst hji;clear hij;have HE:=lh (show Sym.Mrg (vltC cm) xs a b (Sym.rotL xs j m (m+1)) from by
    rw [HBM.out];exact Sym.ins_left HOrd.out hi1 hj HA1.out HLL.out HI.out HJ.out)
   go_wp2;go_loopw [17] (fun vk wr=>∃ k:Nat,vk=.int .i64 k∧j≤k∧k≤m∧Hid (OwnRc wr base (.slice (some ⟨g,0,none⟩) N c) (Sym.rotL xs k m (m+1)))∧Hid (Turn w wr [g])) (fun vk _=>(intOf vk).toNat)
   case atStart=>exact ⟨m,rfl,hj,Nat.le_refl _,(by show OwnRc _ _ _ _;rw [Sym.rot_self];exact H.out.keep HK.out),Turn.keep HK.out _⟩
   case round =>
    clear H HI HJ HK;obtain ⟨k,rfl,hk1,hk2,HO,HT⟩:=hrel
    by_cases hkq:j<k
    ·obtain ⟨q,hq⟩:∃ q,q+1=k:=⟨k-1,by omega⟩;have e1:IntKind.i64.wrap ((k:Int)-1)=(q:Int):=by rw [IntWalk.i64_in _ ⟨by omega,by omega⟩];omega
     have hrl:(Sym.rotL xs k m (m+1)).length=N:=by have:=HN.out;have:=HA1.out;rw [Sym.rotL_len xs k m (m+1) hk2 (by omega) (by omega)];omega
     have hup:=Sym.rot_down' xs k q m hq hk2 HA1.out;have hkl:k<(Sym.rotL xs k m (m+1)).length:=by omega
     have hkl2:q<(Sym.rotL xs k m (m+1)).length:=by omega
     obtain ⟨a0,a1,a2⟩:=vownr_at HO.out hrl k hkl;obtain ⟨b0,b1,_⟩:=vownr_at HO.out hrl q hkl2;have ho3:=vownr_swp HO.out hrl k q hkl hkl2;rw [hup] at ho3;have HO3:=lh ho3;generalize (Sym.rotL xs k m (m+1))[k]=x at a0 HO3;generalize (Sym.rotL xs k m (m+1))[q]=y at b0 HO3;have HG2:=lh (Turn.setR2 wr g k q y x);have HK3:=lh (keep_set2d wr g k q y x);have hne:k≠q:=by omega
     have hqN:q<N:=by omega
     have hkN:k<N:=by omega
     have HQ:=lh hq;clear ho3 hup hkl hkl2 hrl hq;go_wp2;go_region;generalize (wr.drew.setCells g (k*10) y.cells).setCells g (q*10) x.cells=w3 at HK3 ⊢;go_wp2;go_roundw
     case rel=>exact ⟨q,rfl,by have:=HQ.out;omega,by have:=HQ.out;omega,HO3.out.keep HK3.out,HT.out.trans (HG2.out.trans (Turn.keep HK3.out _))⟩
     case measure=>have:=HQ.out;simp [intOf];omega
    ·have hkk:k=j:=by omega
     subst hkk;go_wp2;exact bodyPost_ret (v:=.tuple #[]) (by simp [results,Tryz.results221,go_sem]) rfl ⟨rfl,_,HE.out,HO.out,HT.out⟩
end Go.Proofs.YtpkocnpamcchcaaGreatDoor
