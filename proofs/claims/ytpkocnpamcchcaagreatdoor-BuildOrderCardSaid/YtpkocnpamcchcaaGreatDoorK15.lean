/- Parts of the proof. -/
import Derived.Test.YtpkocnpamcchcaaGreatDoorK14
set_option maxRecDepth 100000
set_option maxHeartbeats 4000000
set_option linter.unusedSimpArgs false
set_option linter.unusedVariables false
set_option linter.unnecessarySimpa false
namespace Go.Proofs.YtpkocnpamcchcaaGreatDoor
open Go.RowKit Go.Zone Go.Shelf
attribute [local go_sem] zone stepZ fill lookFs goes goesUpon dropFs cell_gro frozen_gro size_gro lt_add drew_gro tape_gro keep_refl
attribute [local go_sem] lt_add2 lt_add3 lt_add4 lt_add5 lt_add6 lt_add7 lt_add8 lt_add9 lt_add10 lt_add11 lt_add12
theorem symr_any(f:Nat)(lb:Array Value)(cm:Rw→Rw→Int)(M:Rw→Prop)(w0:World)(g c base a m b N:Nat)(xs:List Rw)(w:World)(ho:Sym.Ord (ltC cm))(hc:CmpOk f lb cm M w0 g)(hM:∀ x∈xs,M x)(ht:Turn w0 w [g])(hN:xs.length=N)(h:OwnR w base (.slice (some ⟨g,0,none⟩) N c) xs)(ham:a+1<m)(hmb:b=m+1)(hb:b≤N)(hl:N≤1000000000)(hL:Sym.Srt (ltC cm) (Sym.seg xs a m)) :
 Calls Tryz.prog 152 #[.slice (some ⟨g,0,none⟩) N c,.int .i64 a,.int .i64 m,.int .i64 b,.func (.func f) #[] lb] w fun e w'=>e=.returned (.tuple #[])∧∃ ys,Sym.Mrg (ltC cm) xs a b ys∧OwnR w' base (.slice (some ⟨g,0,none⟩) N c) ys∧Turn w w' [g]:=by
 have H:=lh h;have HC:=lh hc.call;have eg:=hc.enter;have HM:=lh hM;have HT0:=lh ht;have HOrd:=lh ho;have HLL:=lh hL;have HBM:=lh hmb;have HN:=lh hN;obtain ⟨u,hu⟩:∃ u,u=m-a:=⟨_,rfl⟩;have e0:IntKind.i64.wrap ((m:Int)-(a:Int))=(u:Int):=by rw [IntWalk.i64_in _ ⟨by omega,by omega⟩];omega
 have hu1:¬ ((u:Int)=1):=by omega
 have hu2:((u:Int)==1)=false:=by simp [hu1]
 have eb:IntKind.i64.wrap ((b:Int)-(m:Int))=1:=by rw [IntWalk.i64_in _ ⟨by omega,by omega⟩];omega
 have hmN:m<N:=by omega
 have HA1:=lh (show m<xs.length by omega);clear h hc hM ht ho hL hN hmb hu;go_enter Tryz.func152,Tryz.ntmps152;go_wp2;go_loopw [14,15] (fun vi vj wr=>∃ i j:Nat,vi=.int .i64 i∧vj=.int .i64 j∧a≤i∧i≤j∧j≤m∧Hid (i=a∨∃ h:i-1<xs.length,ltC cm (xs[m]'HA1.out) xs[i-1]=false)∧Hid (j=m∨∃ h:j<xs.length,ltC cm (xs[m]'HA1.out) xs[j]=true)∧Hid (Keep w wr)) (fun vi vj _=>(intOf vj).toNat-(intOf vi).toNat)
 case atStart=>exact ⟨a,m,rfl,rfl,Nat.le_refl _,by omega,Nat.le_refl _,.inl rfl,.inl rfl,Keep.refl _⟩
 case round =>
  obtain ⟨i,j,rfl,rfl,hi1,hij,hj,HI,HJ,HK⟩:=hrel
  by_cases hlt:i<j
  ·obtain ⟨p,hp⟩:∃ p:Nat,p=(i+j)/2:=⟨_,rfl⟩;have hme:((i:Int)+(j:Int))/2=(p:Int):=by omega
   have hp1:i≤p:=by omega
   have hp2:p<j:=by omega
   have hpN:p<N:=by omega
   have hpx:p<xs.length:=by have:=HN.out;omega
   obtain ⟨a0,a1,a2⟩:=ownr_at (H.out.keep HK.out) HN.out p hpx;obtain ⟨b0,b1,_⟩:=ownr_at (H.out.keep HK.out) HN.out m HA1.out;have HCA:=lh (fun W (hW:Turn w0 W [g])=>HC.out W (xs[m]'HA1.out) xs[p] (HM.out _ (List.getElem_mem _)) (HM.out _ (List.getElem_mem _)) hW);have HS2:=lh (fun hz:cm (xs[m]'HA1.out) xs[p]<0=>(show p=m∨∃ h:p<xs.length,ltC cm (xs[m]'HA1.out) xs[p]=true from .inr ⟨hpx,decide_eq_true hz⟩));have HS3:=lh (fun hz:¬ cm (xs[m]'HA1.out) xs[p]<0=>(show p+1=a∨∃ h:p+1-1<xs.length,ltC cm (xs[m]'HA1.out) xs[p+1-1]=false from .inr ⟨hpx,decide_eq_false hz⟩));have HTW:=lh (HT0.out.trans (Turn.keep HK.out _));generalize cm (xs[m]'HA1.out) xs[p]=z at HCA HS2 HS3;generalize hxx:xs[p]=x at a0 HCA;generalize hyy:(xs[m]'HA1.out)=y at b0 HCA;have HXX:=lh hxx;have HYY:=lh hyy;clear hxx hyy hp
   by_cases hz:z<0
   ·have HZ:=lh (HS2.out hz);clear HS2 HS3;go_wp2
    first|refine Zone.wp_region_all_gro (by kernel_rfl) (by kernel_rfl) ?_|refine Zone.wp_region_all (by kernel_rfl) (by kernel_rfl) ?_
    repeat
     refine Zone.wpZ_step (fun K hK=>?_);go_simp
     first
     | (refine hK _ _ ?_;clear hK K)
     | (apply Exists.intro
        refine ⟨fun p=>?_,hK _ _ ?_⟩
        ((go_at_fn f;exact Zone.zc (HCA.out _ (HTW.out.trans (Turn.keep (by repeat first|exact kp0|apply kp1|apply kp2|apply kp3|apply kp4) _)))))
        clear hK K)
    refine Zone.wpZ_nil ?_;intro p5;simp only [Zone.fill];go_wp2;go_roundw
    case rel =>
     obtain rfl:=HYY.out;exact ⟨i,p,rfl,rfl,hi1,hp1,by omega,HI.out,HZ.out,HK.out.trans (by repeat first|exact kp0|apply kp1|apply kp2|apply kp3|apply kp4)⟩
    case measure=>simp [intOf];omega
   ·have HZ:=lh (HS3.out hz);have hdz:decide (z<0)=false:=decide_eq_false hz;clear HS2 HS3;go_wp2
    first|refine Zone.wp_region_all_gro (by kernel_rfl) (by kernel_rfl) ?_|refine Zone.wp_region_all (by kernel_rfl) (by kernel_rfl) ?_
    repeat
     refine Zone.wpZ_step (fun K hK=>?_);go_simp
     first
     | (refine hK _ _ ?_;clear hK K)
     | (apply Exists.intro
        refine ⟨fun p=>?_,hK _ _ ?_⟩
        ((go_at_fn f;exact Zone.zc (HCA.out _ (HTW.out.trans (Turn.keep (by repeat first|exact kp0|apply kp1|apply kp2|apply kp3|apply kp4) _)))))
        clear hK K)
    refine Zone.wpZ_nil ?_;intro p5;simp only [Zone.fill];go_wp2;go_roundw
    case rel =>
     obtain rfl:=HYY.out;exact ⟨p+1,j,by go_num,rfl,by omega,by omega,hj,HZ.out,HJ.out,HK.out.trans (by repeat first|exact kp0|apply kp1|apply kp2|apply kp3|apply kp4)⟩
    case measure=>simp [intOf];omega
  ·have hji:j=i:=by omega
   subst hji;clear hij;have HE:=lh (show Sym.Mrg (ltC cm) xs a b (Sym.rotL xs j m (m+1)) from by
    rw [HBM.out];exact Sym.ins_left HOrd.out hi1 hj HA1.out HLL.out HI.out HJ.out)
   go_wp2;go_loopw [17] (fun vk wr=>∃ k:Nat,vk=.int .i64 k∧j≤k∧k≤m∧Hid (OwnR wr base (.slice (some ⟨g,0,none⟩) N c) (Sym.rotL xs k m (m+1)))∧Hid (Turn w wr [g])) (fun vk _=>(intOf vk).toNat)
   case atStart=>exact ⟨m,rfl,hj,Nat.le_refl _,(by show OwnR _ _ _ _;rw [Sym.rot_self];exact H.out.keep HK.out),Turn.keep HK.out _⟩
   case round =>
    clear H HI HJ HK;obtain ⟨k,rfl,hk1,hk2,HO,HT⟩:=hrel
    by_cases hkq:j<k
    ·obtain ⟨q,hq⟩:∃ q,q+1=k:=⟨k-1,by omega⟩;have e1:IntKind.i64.wrap ((k:Int)-1)=(q:Int):=by rw [IntWalk.i64_in _ ⟨by omega,by omega⟩];omega
     have hrl:(Sym.rotL xs k m (m+1)).length=N:=by have:=HN.out;have:=HA1.out;rw [Sym.rotL_len xs k m (m+1) hk2 (by omega) (by omega)];omega
     have hup:=Sym.rot_down' xs k q m hq hk2 HA1.out;have hkl:k<(Sym.rotL xs k m (m+1)).length:=by omega
     have hkl2:q<(Sym.rotL xs k m (m+1)).length:=by omega
     obtain ⟨a0,a1,a2⟩:=ownr_at HO.out hrl k hkl;obtain ⟨b0,b1,_⟩:=ownr_at HO.out hrl q hkl2;have ho3:=ownr_swp HO.out hrl k q hkl hkl2;rw [hup] at ho3;have HO3:=lh ho3;generalize (Sym.rotL xs k m (m+1))[k]=x at a0 HO3;generalize (Sym.rotL xs k m (m+1))[q]=y at b0 HO3;have HG2:=lh (Turn.set2 wr g k q (.slice y.A y.vs.length y.c) (.slice x.A x.vs.length x.c));have hne:k≠q:=by omega
     have hqN:q<N:=by omega
     have hkN:k<N:=by omega
     have HQ:=lh hq;clear ho3 hup hkl hkl2 hrl hq;go_wp2;go_region;generalize hW:(wr.setCell ⟨g,k,none⟩ (.slice y.A y.vs.length y.c)).setCell ⟨g,q,none⟩ (.slice x.A x.vs.length x.c)=w3 at HO3 HG2 ⊢;clear hW;go_wp2;go_roundw
     case rel=>exact ⟨q,rfl,by have:=HQ.out;omega,by have:=HQ.out;omega,HO3.out.keep (by repeat first|exact kp0|apply kp1|apply kp2|apply kp3|apply kp4),HT.out.trans (HG2.out.trans (Turn.keep (by repeat first|exact kp0|apply kp1|apply kp2|apply kp3|apply kp4) _))⟩
     case measure=>have:=HQ.out;simp [intOf];omega
    ·have hkk:k=j:=by omega
     subst hkk;go_wp2;exact bodyPost_ret (v:=.tuple #[]) (by simp [results,Tryz.results152,go_sem]) rfl ⟨rfl,_,HE.out,HO.out,HT.out⟩
def SymOk(f:Nat)(lb:Array Value)(cm:Rw→Rw→Int)(M:Rw→Prop)(w0:World)(g c base N d:Nat):Prop :=
 ∀ (a m b:Nat) (xs:List Rw) (w:World),b-a≤d→(∀ x∈xs,M x)→Turn w0 w [g]→xs.length=N→OwnR w base (.slice (some ⟨g,0,none⟩) N c) xs→a<m→m<b→b≤N→Sym.Srt (ltC cm) (Sym.seg xs a m)→Sym.Srt (ltC cm) (Sym.seg xs m b) →
   Calls Tryz.prog 152 #[.slice (some ⟨g,0,none⟩) N c,.int .i64 a,.int .i64 m,.int .i64 b,.func (.func f) #[] lb] w fun e w'=>e=.returned (.tuple #[])∧∃ ys,Sym.Mrg (ltC cm) xs a b ys∧OwnR w' base (.slice (some ⟨g,0,none⟩) N c) ys∧Turn w w' [g]
theorem symg_any(f:Nat)(lb:Array Value)(cm:Rw→Rw→Int)(M:Rw→Prop)(w0:World)(g c base N d:Nat)(ho:Sym.Ord (ltC cm))(hc:CmpOk f lb cm M w0 g)(hl:N≤1000000000)(ih:SymOk f lb cm M w0 g c base N d)
 (a m b:Nat) (xs:List Rw) (w:World) (hd:b-a≤d+1) (hM:∀ x∈xs,M x) (ht:Turn w0 w [g]) (hN:xs.length=N) (h:OwnR w base (.slice (some ⟨g,0,none⟩) N c) xs) (ham:a+1<m) (hmb:m+1<b) (hb:b≤N) (hL:Sym.Srt (ltC cm) (Sym.seg xs a m)) (hR:Sym.Srt (ltC cm) (Sym.seg xs m b)) :
 Calls Tryz.prog 152 #[.slice (some ⟨g,0,none⟩) N c,.int .i64 a,.int .i64 m,.int .i64 b,.func (.func f) #[] lb] w fun e w'=>e=.returned (.tuple #[])∧∃ ys,Sym.Mrg (ltC cm) xs a b ys∧OwnR w' base (.slice (some ⟨g,0,none⟩) N c) ys∧Turn w w' [g]:=by
 have H:=lh h;have HC:=lh hc.call;have eg:=hc.enter;have HM:=lh hM;have HT0:=lh ht;have HOrd:=lh ho;have HLL:=lh hL;have HRR:=lh hR;have HN:=lh hN;have HIH:=lh ih;obtain ⟨u,hu⟩:∃ u,u=m-a:=⟨_,rfl⟩;have e0:IntKind.i64.wrap ((m:Int)-(a:Int))=(u:Int):=by rw [IntWalk.i64_in _ ⟨by omega,by omega⟩];omega
 have hu1:¬ ((u:Int)=1):=by omega
 have hu2:((u:Int)==1)=false:=by simp [hu1]
 obtain ⟨v,hv⟩:∃ v,v=b-m:=⟨_,rfl⟩;have eb:IntKind.i64.wrap ((b:Int)-(m:Int))=(v:Int):=by rw [IntWalk.i64_in _ ⟨by omega,by omega⟩];omega
 have hv1:¬ ((v:Int)=1):=by omega
 have hv2:((v:Int)==1)=false:=by simp [hv1]
 obtain ⟨mid,hmid⟩:∃ mid,mid=(a+b)/2:=⟨_,rfl⟩;have hme:((a:Int)+(b:Int))/2=(mid:Int):=by omega
 obtain ⟨n,hn⟩:∃ n,n=mid+m:=⟨_,rfl⟩;have en:IntKind.i64.wrap ((mid:Int)+(m:Int))=(n:Int):=by rw [IntWalk.i64_in _ ⟨by omega,by omega⟩];omega
 obtain ⟨p,hp⟩:∃ p,p+1=n:=⟨n-1,by omega⟩;have ep:IntKind.i64.wrap ((n:Int)-1)=(p:Int):=by rw [IntWalk.i64_in _ ⟨by omega,by omega⟩];omega
 obtain ⟨lo,hlo⟩:∃ lo,lo=if mid<m then mid+m-b else a:=⟨_,rfl⟩
 obtain ⟨hi,hhi⟩:∃ hi,hi=if mid<m then mid else m:=⟨_,rfl⟩
 have hlh:lo≤hi:=by rw [hlo,hhi];split<;>omega
 have hhm:hi≤m:=by rw [hhi];split<;>omega
 have hma:a<mid:=by omega
 have hmb2:mid<b:=by omega
 have HMID:=lh hmid;have HNN:=lh hn;have HP:=lh hp;have HLO:=lh hlo;have HHI:=lh hhi;have HCUT:=lh (show ∀ s,lo≤s→s≤hi→(s=hi∨∃ (h1:p-s<xs.length) (h2:s<xs.length),ltC cm xs[p-s] xs[s]=true)→(s=lo∨∃ (h1:p-(s-1)<xs.length) (h2:s-1<xs.length),ltC cm xs[p-(s-1)] xs[s-1]=false)→Sym.CutAt (ltC cm) xs a m b s from fun s s1 s2 s3 s4=>by
  subst hmid;refine ⟨by rw [← hlo];exact s1,by rw [← hhi];exact s2,fun q=>?_,fun q=>?_⟩
  ·rw [← hhi] at q
   rcases s3 with s3 | ⟨h1,h2,h3⟩
   ·omega
   ·have e:(a+b)/2+m-1-s=p-s:=by omega
    refine ⟨by omega,h2,?_⟩;simp only [e];exact h3
  ·rw [← hlo] at q
   rcases s4 with s4 | ⟨h1,h2,h3⟩
   ·omega
   ·have e:(a+b)/2+m-s=p-(s-1):=by omega
    refine ⟨by omega,h2,?_⟩;simp only [e];exact h3)
 have HIX:=lh (show ∀ s,lo≤s→s<hi→s<N∧s≤p∧p-s<N from fun s s1 s2=>by
  rw [hlo] at s1;rw [hhi] at s2;refine ⟨by split at s2<;>omega,by split at s2<;>omega,by split at s1<;>omega⟩)
 clear h hc hM ht ho hL hR hN ih hu hv hn hp hmid;go_enter Tryz.func152,Tryz.ntmps152;go_upto_if 140 with fail;go_cut [20,21] from 138 to 146 (fun s20 s21 wx=>s20=.int .i64 lo∧s21=.int .i64 hi∧wx=w)
 case first =>
  by_cases hq:mid<m
  ·rw [if_pos hq] at hlo hhi;have el:IntKind.i64.wrap ((n:Int)-(b:Int))=(lo:Int):=by have:=HNN.out;rw [IntWalk.i64_in _ ⟨by omega,by omega⟩];omega
   subst hhi;clear hlo;go_wp2;go_meet
   case rel=>exact ⟨rfl,rfl,rfl⟩
  ·rw [if_neg hq] at hlo hhi;subst hlo;subst hhi;go_wp2;go_meet
   case rel=>exact ⟨rfl,rfl,rfl⟩
 case rest =>
  rename World=>wz;obtain ⟨rfl,rfl,hww⟩:=hcut
  replace hww:=hww.symm
  subst hww;clear hlo hhi hme en e0 eb hu1 hu2 hv1 hv2;go_wp2;go_loopw [20,21] (fun vi vj wr=>∃ i j:Nat,vi=.int .i64 i∧vj=.int .i64 j∧lo≤i∧i≤j∧j≤hi∧Hid (i=lo∨∃ (h1:p-(i-1)<xs.length) (h2:i-1<xs.length),ltC cm xs[p-(i-1)] xs[i-1]=false)∧Hid (j=hi∨∃ (h1:p-j<xs.length) (h2:j<xs.length),ltC cm xs[p-j] xs[j]=true)∧Hid (Keep w wr)) (fun vi vj _=>(intOf vj).toNat-(intOf vi).toNat)
  case atStart=>exact ⟨lo,hi,rfl,rfl,Nat.le_refl _,hlh,Nat.le_refl _,.inl rfl,.inl rfl,Keep.refl _⟩
  case round =>
   obtain ⟨i,j,rfl,rfl,hi1,hij,hj,HI,HJ,HK⟩:=hrel
   by_cases hlt:i<j
   ·obtain ⟨q,hq⟩:∃ q:Nat,q=(i+j)/2:=⟨_,rfl⟩;have hme:((i:Int)+(j:Int))/2=(q:Int):=by omega
    have hp1:i≤q:=by omega
    have hp2:q<j:=by omega
    obtain ⟨hqN,hqp,hpN⟩:=HIX.out q (by omega) (by omega);have hqx:q<xs.length:=by have:=HN.out;omega
    have hpx:p-q<xs.length:=by have:=HN.out;omega
    obtain ⟨a0,a1,a2⟩:=ownr_at (H.out.keep HK.out) HN.out q hqx;obtain ⟨b0,b1,_⟩:=ownr_at (H.out.keep HK.out) HN.out (p-q) hpx;have HCA:=lh (fun W (hW:Turn w0 W [g])=>HC.out W xs[p-q] xs[q] (HM.out _ (List.getElem_mem _)) (HM.out _ (List.getElem_mem _)) hW);have HS2:=lh (fun hz:cm xs[p-q] xs[q]<0=>(show q=hi∨∃ (h1:p-q<xs.length) (h2:q<xs.length),ltC cm xs[p-q] xs[q]=true from .inr ⟨hpx,hqx,decide_eq_true hz⟩));have HS3:=lh (fun hz:¬ cm xs[p-q] xs[q]<0=>(show q+1=lo∨∃ (h1:p-(q+1-1)<xs.length) (h2:q+1-1<xs.length),ltC cm xs[p-(q+1-1)] xs[q+1-1]=false from .inr ⟨hpx,hqx,decide_eq_false hz⟩));have HTW:=lh (HT0.out.trans (Turn.keep HK.out _));generalize cm xs[p-q] xs[q]=z at HCA HS2 HS3;generalize hxx:xs[q]=x at a0 HCA;generalize hyy:xs[p-q]=y at b0 HCA;have HXX:=lh hxx;have HYY:=lh hyy;obtain ⟨r,hr⟩:∃ r,r=p-q:=⟨_,rfl⟩;have er:IntKind.i64.wrap ((p:Int)-(q:Int))=(r:Int):=by rw [IntWalk.i64_in _ ⟨by omega,by omega⟩];omega
    rw [← hr] at b0 b1 hpN;clear hxx hyy hq hr
    by_cases hz:z<0
    ·have HZ:=lh (HS2.out hz);clear HS2 HS3;go_wp2
     first|refine Zone.wp_region_all_gro (by kernel_rfl) (by kernel_rfl) ?_|refine Zone.wp_region_all (by kernel_rfl) (by kernel_rfl) ?_
     repeat
           refine Zone.wpZ_step (fun K hK=>?_);go_simp
           first
           | (refine hK _ _ ?_;clear hK K)
           | (apply Exists.intro
              refine ⟨fun p=>?_,hK _ _ ?_⟩
              ((go_at_fn f;exact Zone.zc (HCA.out _ (HTW.out.trans (Turn.keep (by repeat first|exact kp0|apply kp1|apply kp2|apply kp3|apply kp4) _)))))
              clear hK K)
     refine Zone.wpZ_nil ?_;intro p5;simp only [Zone.fill];go_wp2;go_roundw
     case rel=>exact ⟨i,q,rfl,rfl,hi1,hp1,by omega,HI.out,HZ.out,HK.out.trans (by repeat first|exact kp0|apply kp1|apply kp2|apply kp3|apply kp4)⟩
     case measure=>simp [intOf];omega
    ·have HZ:=lh (HS3.out hz);have hdz:decide (z<0)=false:=decide_eq_false hz;clear HS2 HS3;go_wp2
     first|refine Zone.wp_region_all_gro (by kernel_rfl) (by kernel_rfl) ?_|refine Zone.wp_region_all (by kernel_rfl) (by kernel_rfl) ?_
     repeat
           refine Zone.wpZ_step (fun K hK=>?_);go_simp
           first
           | (refine hK _ _ ?_;clear hK K)
           | (apply Exists.intro
              refine ⟨fun p=>?_,hK _ _ ?_⟩
              ((go_at_fn f;exact Zone.zc (HCA.out _ (HTW.out.trans (Turn.keep (by repeat first|exact kp0|apply kp1|apply kp2|apply kp3|apply kp4) _)))))
              clear hK K)
     refine Zone.wpZ_nil ?_;intro p5;simp only [Zone.fill];go_wp2;go_roundw
     case rel=>exact ⟨q+1,j,by go_num,rfl,by omega,by omega,hj,HZ.out,HJ.out,HK.out.trans (by repeat first|exact kp0|apply kp1|apply kp2|apply kp3|apply kp4)⟩
     case measure=>simp [intOf];omega
   ·have hji:j=i:=by omega
    subst hji;have HCU:=lh (HCUT.out j hi1 hj HJ.out HI.out);clear HI HJ HIX HCUT;obtain ⟨e,he⟩:∃ e,e=n-j:=⟨_,rfl⟩;have hcp:=Sym.cut_parts HOrd.out (by omega) (by omega) (by have:=HN.out;omega) HLL.out HRR.out HCU.out;have hmid:=HMID.out;have hnn:=HNN.out;have hee:(a+b)/2+m-j=e:=by omega
    rw [hee] at hcp;obtain ⟨c1,c2,c3,c4,_,_⟩:=hcp;have ee:IntKind.i64.wrap ((n:Int)-(j:Int))=(e:Int):=by rw [IntWalk.i64_in _ ⟨by omega,by omega⟩];omega
    have hbx:b≤xs.length:=by have:=HN.out;omega
    have q1:=Sym.half_runs HOrd.out (by omega) (by omega) hbx HLL.out HRR.out HCU.out;have q2:=fun hh=>Sym.half_left HOrd.out (by omega) (by omega) hbx HLL.out HRR.out HCU.out hh;have q3:=fun (d2:List Rw) h2 hh=>Sym.half_right (d2:=d2) HOrd.out (by omega) (by omega) hbx HLL.out HRR.out HCU.out h2 hh;have q4:=fun (d2 d3:List Rw) h2 h3=>Sym.sym_done (d2:=d2) (d3:=d3) HOrd.out (by omega) (by omega) hbx HLL.out HRR.out HCU.out h2 h3;rw [hee,← hmid] at q1 q2 q3 q4;have q5:(Sym.rotL xs j m e).length=N:=(Sym.rotL_len xs j m e c2 c3 (by omega)).trans HN.out;have q6:=Sym.rot_mem (d:=xs) c2 c3 HM.out;have q7:¬ (j<m∧m<e)→Sym.rotL xs j m e=xs:=fun hh=>by
     rcases (show j=m∨e=m by omega) with h1|h1
     ·rw [h1];exact Sym.rotL_left xs m e c3
     ·rw [h1];exact Sym.rotL_right xs j m c2
    have HRT:=lh (fun (h1:j<m) (h2:m<e)=>rot_any g c base j m e N xs HN.out (.func (.func f) #[] lb) wr (H.out.keep HK.out) h1 h2 (by omega) hl);have HQ1:=lh q1;have HQ2:=lh q2;have HQ3:=lh q3;have HQ4:=lh q4;have HQ5:=lh q5;have HQ6:=lh q6;have HQ7:=lh q7;clear q1 q2 q3 q4 q5 q6 q7 hmid hnn hee he hij;generalize hys:Sym.rotL xs j m e=ys at HRT HQ1 HQ2 HQ3 HQ4 HQ5 HQ6 HQ7;have HYS:=lh hys;clear hys;go_upto_region 39 with fail;go_cut [185] from 178 to 185 (fun sb wx=>∃ bq:Bool,sb=.bool bq∧Hid (bq=decide (j<m∧m<e))∧wx=wr)
    case first =>
     by_cases h1:j<m
     ·by_cases h2:m<e
      ·go_wp2;go_meet
       case rel=>exact ⟨_,rfl,(by show _=_;simp [h1,h2]),rfl⟩
      ·go_wp2;go_meet
       case rel=>exact ⟨_,rfl,(by show _=_;simp [h1,h2]),rfl⟩
     ·go_wp2;go_meet
      case rel=>exact ⟨_,rfl,(by show _=_;simp [h1]),rfl⟩
    case rest =>
    rename World=>wz;obtain ⟨bq,rfl,HBQ,hww⟩:=hcut
    replace hww:=hww.symm
    subst hww;go_upto_if 185 with fail;go_cut [] from 186 to 191 (fun wx=>Hid (OwnR wx base (.slice (some ⟨g,0,none⟩) N c) ys)∧Hid (Turn wr wx [g]))
    case first =>
     by_cases hh:j<m∧m<e
     ·obtain rfl:bq=true:=HBQ.out.trans (decide_eq_true hh);have HR2:=lh (HRT.out hh.1 hh.2);clear hh HRT;go_wp2_with (go_at_call 187;refine hold ?_);refine unhold ?_;refine HR2.out.mono ?_;rintro e9 w' ⟨rfl,hO,hT⟩;have HO':=lh hO;have HT':=lh hT;clear hO hT HR2;go_wp2;go_meet
      case rel=>exact ⟨HO'.out,HT'.out⟩
     ·obtain rfl:bq=false:=HBQ.out.trans (decide_eq_false hh);have HQ:=lh (HQ7.out hh);clear hh HRT;go_wp2;go_meet
      case rel=>exact ⟨by show OwnR _ _ _ _;rw [HQ.out];exact H.out.keep HK.out,Turn.refl _ _⟩
    case rest =>
    rename World=>w3;obtain ⟨HO3,HT3⟩:=hcut;have HT4:=lh ((Turn.keep HK.out [g]).trans HT3.out);clear HRT HQ7 HYS HT3 HK H
    trace_state
    go_upto_region 41 with fail;go_cut [199] from 192 to 199 (fun sb wx=>∃ bq:Bool,sb=.bool bq∧Hid (bq=decide (a<j∧j<mid))∧wx=w3)
    case first =>
     by_cases h1:a<j
     ·by_cases h2:j<mid
      ·go_wp2;go_meet
       case rel=>exact ⟨_,rfl,(by show _=_;simp [h1,h2]),rfl⟩
      ·go_wp2;go_meet
       case rel=>exact ⟨_,rfl,(by show _=_;simp [h1,h2]),rfl⟩
     ·go_wp2;go_meet
      case rel=>exact ⟨_,rfl,(by show _=_;simp [h1]),rfl⟩
    case rest =>
    rename World=>wz;obtain ⟨bq,rfl,HBQ,hww⟩:=hcut
    replace hww:=hww.symm
    subst hww;go_upto_if 199 with fail;go_cut [] from 200 to 205 (fun wx=>∃ d2,Hid (Sym.Mrg (ltC cm) ys a mid d2)∧Hid (OwnR wx base (.slice (some ⟨g,0,none⟩) N c) d2)∧Hid (Turn w3 wx [g]))
    case first =>
     by_cases hh:a<j∧j<mid
     ·obtain rfl:bq=true:=HBQ.out.trans (decide_eq_true hh);have HR2:=lh (HIH.out a j mid ys w3 (by omega) HQ6.out (HT0.out.trans HT4.out) HQ5.out HO3.out hh.1 hh.2 (by omega) HQ1.out.1 HQ1.out.2.1);clear hh;go_wp2_with (go_at_call 152;refine hold ?_);refine unhold ?_;refine HR2.out.mono ?_;rintro e9 w' ⟨rfl,d2,hm2,hO,hT⟩;have HM2:=lh hm2;have HO':=lh hO;have HT':=lh hT;clear hO hT HR2 hm2;go_wp2;go_meet
      case rel=>exact ⟨d2,HM2.out,HO'.out,HT'.out⟩
     ·obtain rfl:bq=false:=HBQ.out.trans (decide_eq_false hh);have HQ:=lh (HQ2.out hh);clear hh;go_wp2;go_meet
      case rel=>exact ⟨ys,HQ.out,HO3.out,Turn.refl _ _⟩
    case rest =>
    rename World=>w4;obtain ⟨d2,HM2,HO4,HT5⟩:=hcut;have HT6:=lh (HT4.out.trans HT5.out);clear HQ2 HO3 HT5 HT4;go_upto_region 43 with fail;go_cut [213] from 206 to 213 (fun sb wx=>∃ bq:Bool,sb=.bool bq∧Hid (bq=decide (mid<e∧e<b))∧wx=w4)
    case first =>
     by_cases h1:mid<e
     ·by_cases h2:e<b
      ·go_wp2;go_meet
       case rel=>exact ⟨_,rfl,(by show _=_;simp [h1,h2]),rfl⟩
      ·go_wp2;go_meet
       case rel=>exact ⟨_,rfl,(by show _=_;simp [h1,h2]),rfl⟩
     ·go_wp2;go_meet
      case rel=>exact ⟨_,rfl,(by show _=_;simp [h1]),rfl⟩
    case rest =>
    rename World=>wz;obtain ⟨bq,rfl,HBQ,hww⟩:=hcut
    replace hww:=hww.symm
    subst hww
    by_cases hh:mid<e∧e<b
    ·obtain rfl:bq=true:=HBQ.out.trans (decide_eq_true hh);have hl2:d2.length=N:=HM2.out.len.trans HQ5.out;have s1:Sym.Srt (ltC cm) (Sym.seg d2 mid e):=by rw [Sym.seg_of_back HM2.out.back];exact HQ1.out.2.2.1
     have s2:Sym.Srt (ltC cm) (Sym.seg d2 e b):=by rw [Sym.seg_of_back (Sym.drop_of_drop (by omega) HM2.out.back)];exact HQ1.out.2.2.2
     have HR2:=lh (HIH.out mid e b d2 w4 (by omega) (HM2.out.mem HOrd.out (by omega) HQ6.out) (HT0.out.trans HT6.out) hl2 HO4.out hh.1 hh.2 hb s1 s2);clear hh hl2 s1 s2;go_wp2_with (go_at_call 152;refine hold ?_);refine unhold ?_;refine HR2.out.mono ?_;rintro e9 w' ⟨rfl,d3,hm3,hO,hT⟩;have HM3:=lh hm3;have HO':=lh hO;have HT':=lh hT;clear hO hT HR2 hm3;go_wp2;go_end0;exact ⟨rfl,d3,HQ4.out d2 d3 HM2.out HM3.out,HO'.out,HT6.out.trans HT'.out⟩
    ·obtain rfl:bq=false:=HBQ.out.trans (decide_eq_false hh);have HQ:=lh (HQ4.out d2 d2 HM2.out (HQ3.out d2 HM2.out hh));clear hh;go_wp2;go_end0;exact ⟨rfl,d2,HQ.out,HO4.out,HT6.out⟩
theorem sym_any(f:Nat)(lb:Array Value)(cm:Rw→Rw→Int)(M:Rw→Prop)(w0:World)(g c base N:Nat)(ho:Sym.Ord (ltC cm))(hc:CmpOk f lb cm M w0 g)(hl:N≤1000000000):∀ d,SymOk f lb cm M w0 g c base N d
 | 0=>fun a m b _ _ hd _ _ _ _ ham hmb _ _ _=>by omega
 | d+1=>fun a m b xs w hd hM ht hN h ham hmb hb hL hR=>by
   by_cases h1:m=a+1
   ·exact syml_any f lb cm M w0 g c base a m b N xs w ho hc hM ht hN h h1 hmb hb hl hR
   ·by_cases h2:b=m+1
    ·exact symr_any f lb cm M w0 g c base a m b N xs w ho hc hM ht hN h (by omega) h2 hb hl hL
    ·exact symg_any f lb cm M w0 g c base N d ho hc hl (sym_any f lb cm M w0 g c base N ho hc hl d) a m b xs w hd hM ht hN h (by omega) (by omega) hb hL hR
theorem stab_any(f:Nat)(lb:Array Value)(cm:Rw→Rw→Int)(M:Rw→Prop)(w0:World)(g c base n:Nat)(xs:List Rw)(w:World)(ho:Sym.Ord (ltC cm))(hc:CmpOk f lb cm M w0 g)(hM:∀ x∈xs,M x)(ht:Turn w0 w [g])(hN:xs.length=n)(h:OwnR w base (.slice (some ⟨g,0,none⟩) n c) xs)(hl:n≤1000000000) :
 Calls Tryz.prog 104 #[.slice (some ⟨g,0,none⟩) n c,.int .i64 n,.func (.func f) #[] lb] w fun e w'=>e=.returned (.tuple #[])∧∃ ys,Sym.Stb (ltC cm) xs ys∧OwnR w' base (.slice (some ⟨g,0,none⟩) n c) ys∧Turn w w' [g]:=by
 have H:=lh h;have HOrd:=lh ho;have HM:=lh hM;have HN:=lh hN;have HINS:=lh (fun (a b:Nat) (ys:List Rw) (W:World) (hM:∀ x∈ys,M x) (hW:Turn w W [g]) (hn:ys.length=n) (ho2:OwnR W base (.slice (some ⟨g,0,none⟩) n c) ys) (hab:a≤b) (hb:b≤n)=>inss_any f lb cm M w0 g c base a b n ys W ho hc hM (ht.trans hW) hn ho2 hab hb hl);have HSYM:=lh (fun (a m b:Nat) (ys:List Rw) (W:World) (hM:∀ x∈ys,M x) (hW:Turn w W [g]) (hn:ys.length=n) (ho2:OwnR W base (.slice (some ⟨g,0,none⟩) n c) ys) (ham:a<m) (hmb:m<b) (hb:b≤n) hL hR=>sym_any f lb cm M w0 g c base n ho hc hl (b-a) a m b ys W (Nat.le_refl _) hM (ht.trans hW) hn ho2 ham hmb hb hL hR);clear h hc hM ht hN ho;go_enter Tryz.func104,Tryz.ntmps104;go_wp2;go_loopw [7,8] (fun va vb wr=>∃ (k a b:Nat) (ys:List Rw),va=.int .i64 a∧vb=.int .i64 b∧b=a+20∧a≤n∧Hid (a=k*20)∧Hid (ys.length=n)∧Hid (Sym.Cls (ltC cm) xs ys)∧Hid (Sym.Blk (ltC cm) ys 20 (· < k))∧Hid (OwnR wr base (.slice (some ⟨g,0,none⟩) n c) ys)∧Hid (Turn w wr [g])) (fun _ vb _=>n+20-(intOf vb).toNat)
 case atStart=>exact ⟨0,0,20,xs,rfl,rfl,rfl,Nat.zero_le _,rfl,HN.out,Sym.Cls.refl _,(fun k hk=>absurd hk (Nat.not_lt_zero _)),H.out,Turn.refl _ _⟩
 case round =>
  clear H;obtain ⟨k,a,b,ys,rfl,rfl,hb,ha,HA,HL,HCL,HB,HO,HT⟩:=hrel;have HMY:=lh (fun x hx=>HM.out x (HCL.out.symm.mem HOrd.out x hx):∀ x∈ys,M x);have hab:a≤b:=by omega
  have HBA:=lh hb;clear hb
  by_cases hlt:b≤n
  ·have e1:IntKind.i64.wrap ((b:Int)+20)=((b+20:Nat):Int):=by rw [IntWalk.i64_in _ ⟨by omega,by omega⟩];omega
   have HC:=lh (HINS.out a b ys wr HMY.out HT.out HL.out HO.out hab hlt);go_wp2_with (go_at_call 151;refine hold ?_);refine unhold ?_;refine HC.out.mono ?_;rintro e w' ⟨rfl,zs,hm,hO,hT⟩;have HMG:=lh hm;have HO':=lh hO;have HT':=lh hT;clear hm hO hT HC;go_wp2;go_roundw
   case rel=>exact ⟨k+1,b,b+20,zs,rfl,by go_num,rfl,hlt,(by show _=_;rw [Nat.add_mul,← HA.out,HBA.out]),HMG.out.len.trans HL.out,HCL.out.trans (HMG.out.cls (by omega)),(by
    have h0:=HMG.out;rw [HA.out] at h0;exact Sym.blk_step HB.out h0 (by rw [HBA.out,Nat.add_mul,← HA.out])),HO'.out,HT.out.trans HT'.out⟩
   case measure=>simp [intOf];omega
  ·have HC:=lh (HINS.out a n ys wr HMY.out HT.out HL.out HO.out ha (Nat.le_refl _));go_wp2_with (go_at_call 151;refine hold ?_);refine unhold ?_;refine HC.out.mono ?_;rintro e w' ⟨rfl,zs,hm,hO,hT⟩;have HO':=lh hO;have HT':=lh (HT.out.trans hT);have HL':=lh (hm.len.trans HL.out);have HCL':=lh (HCL.out.trans (hm.cls ha));have HB':=lh (show Sym.Blk (ltC cm) zs 20 (fun _=>True) from by
    rw [HA.out] at hm;exact Sym.blk_last HB.out hm HL.out (by rw [Nat.add_mul,← HA.out];have:=HBA.out;omega))
   clear hm hO hT HC HINS HO HT HL HCL HB HA HMY;go_wp2;go_loopw [6,7,8,9] (fun v6 _ _ _ wr=>∃ (bs:Nat) (ys:List Rw),v6=.int .i64 bs∧20≤bs∧Hid (ys.length=n)∧Hid (Sym.Cls (ltC cm) xs ys)∧Hid (Sym.Blk (ltC cm) ys bs (fun _=>True))∧Hid (OwnR wr base (.slice (some ⟨g,0,none⟩) n c) ys)∧Hid (Turn w wr [g])) (fun v6 _ _ _ _=>n-(intOf v6).toNat)
   case atStart=>exact ⟨20,zs,rfl,Nat.le_refl _,HL'.out,HCL'.out,HB'.out,HO'.out,HT'.out⟩
   case round =>
    clear HO' HT' HL' HCL' HB';obtain ⟨bs,ys,rfl,hbs,HL,HCL,HB,HO,HT⟩:=hrel
    by_cases hbn:bs<n
    ·have e2:IntKind.i64.wrap (2*(bs:Int))=((2*bs:Nat):Int):=by rw [IntWalk.i64_in _ ⟨by omega,by omega⟩];omega
     have e3:IntKind.i64.wrap ((bs:Int)*2)=((2*bs:Nat):Int):=by rw [IntWalk.i64_in _ ⟨by omega,by omega⟩];omega
     obtain ⟨t,ht⟩:∃ t,t=2*bs:=⟨_,rfl⟩;rw [← ht] at e2 e3;have HTT:=lh ht;clear ht;go_wp2;go_loopw [7,8] (fun va vb wr=>∃ (k a b:Nat) (zs:List Rw),va=.int .i64 a∧vb=.int .i64 b∧b=a+t∧a≤n∧Hid (a=k*t)∧Hid (zs.length=n)∧Hid (Sym.Cls (ltC cm) xs zs)∧Hid (Sym.Blk (ltC cm) zs t (· < k))∧Hid (Sym.Blk (ltC cm) zs bs (2*k≤·))∧Hid (OwnR wr base (.slice (some ⟨g,0,none⟩) n c) zs)∧Hid (Turn w wr [g])) (fun _ vb _=>n+t-(intOf vb).toNat)
     case atStart=>exact ⟨0,0,t,ys,rfl,rfl,(by omega),Nat.zero_le _,(by show _=_;omega),HL.out,HCL.out,(fun k hk=>absurd hk (Nat.not_lt_zero _)),(fun k _=>HB.out k trivial),HO.out,HT.out⟩
     case round =>
      clear HO HT HL HCL HB;obtain ⟨k,a,b,zs,rfl,rfl,hb,ha,HA,HL,HCL,HB,HB2,HO,HT⟩:=hrel;have hbt:=hb;have HBB:=lh hb;clear hb;have HMZ:=lh (fun x hx=>HM.out x (HCL.out.symm.mem HOrd.out x hx):∀ x∈zs,M x);have ht2:=HTT.out;have hA2:a=k*(2*bs):=by have:=HA.out;rw [ht2] at this;exact this
      have hruns:=Sym.two_runs HB2.out;rw [← hA2] at hruns;have HRUN:=lh hruns;have HA2:=lh hA2;clear hruns hA2;have em:IntKind.i64.wrap ((a:Int)+(bs:Int))=((a+bs:Nat):Int):=by rw [IntWalk.i64_in _ ⟨by omega,by omega⟩];omega
      by_cases hlt:b≤n
      ·have e1:IntKind.i64.wrap ((b:Int)+(t:Int))=((b+t:Nat):Int):=by rw [IntWalk.i64_in _ ⟨by omega,by omega⟩];omega
       have hbb:a+bs+bs=b:=by omega
       have HC:=lh (HSYM.out a (a+bs) b zs wr HMZ.out HT.out HL.out HO.out (by omega) (by omega) hlt HRUN.out.1 (by rw [← hbb];exact HRUN.out.2));clear ht2 hbb hbt;go_wp2_with (go_at_call 152;refine hold ?_);refine unhold ?_;refine HC.out.mono ?_;rintro e w' ⟨rfl,us,hm,hO,hT⟩;have HMG:=lh hm;have HO':=lh hO;have HT':=lh hT;clear hm hO hT HC;go_wp2;go_roundw
       case rel =>
        have ht3:=HTT.out;have hst:=Sym.two_step (k:=k) (b:=b) (d:=zs) (d':=us) (bs:=bs) (by rw [← ht3];exact HB.out) HB2.out (by rw [← HA2.out];exact HMG.out) (by rw [Nat.add_mul,Nat.one_mul,← HA2.out];have:=HBB.out;omega);rw [← ht3] at hst;exact ⟨k+1,b,b+t,us,rfl,by go_num,rfl,hlt,(by show _=_;rw [Nat.add_mul,← HA.out,HBB.out,Nat.one_mul]),HMG.out.len.trans HL.out,HCL.out.trans (HMG.out.cls (by have:=HBB.out;omega)),hst.1,hst.2,HO'.out,HT.out.trans HT'.out⟩
       case measure=>have:=HTT.out;simp [intOf];omega
      ·by_cases hmn:a+bs<n
       ·have hov:Sym.seg zs (a+bs) n=Sym.seg zs (a+bs) (a+bs+bs):=by
            have:=HL.out;rw [Sym.seg_over zs (a+bs) (a+bs+bs) (by omega),this]
        have HC:=lh (HSYM.out a (a+bs) n zs wr HMZ.out HT.out HL.out HO.out (by omega) hmn (Nat.le_refl _) HRUN.out.1 (by rw [hov];exact HRUN.out.2));clear ht2 hov hbt;go_wp2_with (go_at_call 152;refine hold ?_);refine unhold ?_;refine HC.out.mono ?_;rintro e w' ⟨rfl,us,hm,hO,hT⟩;have HMG:=lh hm;have HO':=lh hO;have HT':=lh hT;clear hm hO hT HC;go_wp2;go_roundw
        case rel =>
            have h0:=HMG.out;rw [HA.out] at h0;exact ⟨t,us,rfl,(by have:=HTT.out;omega),HMG.out.len.trans HL.out,HCL.out.trans (HMG.out.cls (by omega)),Sym.blk_last HB.out h0 HL.out (by rw [Nat.add_mul,Nat.one_mul,← HA.out];have:=HBB.out;omega),HO'.out,HT.out.trans HT'.out⟩
        case measure=>have:=HTT.out;simp [intOf];omega
       ·clear ht2 hbt;go_wp2;go_roundw
        case rel =>
            have ht3:=HTT.out;have he:=Sym.two_end (k:=k) (d:=zs) (bs:=bs) (by rw [← ht3];exact HB.out) HB2.out (by rw [← HA2.out,HL.out];omega) (by omega);rw [← ht3] at he;exact ⟨t,zs,rfl,(by omega),HL.out,HCL.out,he,HO.out,HT.out⟩
        case measure=>have:=HTT.out;simp [intOf];omega
    ·have hs:Sym.Stb (ltC cm) xs ys:=⟨Sym.blk_whole HB.out (by have:=HL.out;omega),HCL.out⟩;have HS:=lh hs;clear hs;go_wp2;go_end0;exact ⟨rfl,ys,HS.out,HO.out,HT.out⟩
end Go.Proofs.YtpkocnpamcchcaaGreatDoor
