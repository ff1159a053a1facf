/- Parts of the proof. -/
import Derived.Test.YtpkocnpamcchcaaGreatDoorK28
set_option maxRecDepth 100000
set_option maxHeartbeats 4000000
set_option linter.unusedSimpArgs false
set_option linter.unusedVariables false
set_option linter.unnecessarySimpa false
namespace Go.Proofs.YtpkocnpamcchcaaGreatDoor
open Go.RowKit Go.Zone Go.Shelf
attribute [local go_sem] zone stepZ fill lookFs goes goesUpon dropFs cell_gro frozen_gro size_gro lt_add drew_gro tape_gro keep_refl
attribute [local go_sem] lt_add2 lt_add3 lt_add4 lt_add5 lt_add6 lt_add7 lt_add8 lt_add9 lt_add10 lt_add11 lt_add12
attribute [local go_sem ↓] to_fastL to_fastS
attribute [local go_sem] fast_load fast_store rd10_drew rd10_drewN rd10_gro thB_drew thB_set thB_drewN thB_gro size_setCells
def VSymOk(f:Nat)(lb:Array Value)(cm:Rc→Rc→Int)(M:Rc→Prop)(w0:World)(g c base N d:Nat):Prop :=
 ∀ (a m b:Nat) (xs:List Rc) (w:World),b-a≤d→(∀ x∈xs,M x)→Turn w0 w [g]→xs.length=N→OwnRc w base (.slice (some ⟨g,0,none⟩) N c) xs→a<m→m<b→b≤N→Sym.Srt (vltC cm) (Sym.seg xs a m)→Sym.Srt (vltC cm) (Sym.seg xs m b) →
   Calls Tryz.prog 221 #[.slice (some ⟨g,0,none⟩) N c,.int .i64 a,.int .i64 m,.int .i64 b,.func (.func f) #[] lb] w fun e w'=>e=.returned (.tuple #[])∧∃ ys,Sym.Mrg (vltC cm) xs a b ys∧OwnRc w' base (.slice (some ⟨g,0,none⟩) N c) ys∧Turn w w' [g]
theorem vsymg_any(f:Nat)(lb:Array Value)(cm:Rc→Rc→Int)(M:Rc→Prop)(w0:World)(g c base N d:Nat)(ho:Sym.Ord (vltC cm))(hc:VCmpOk f lb cm M w0 g)(hl:N≤1000000000)(ih:VSymOk f lb cm M w0 g c base N d)
 (a m b:Nat) (xs:List Rc) (w:World) (hd:b-a≤d+1) (hM:∀ x∈xs,M x) (ht:Turn w0 w [g]) (hN:xs.length=N) (h:OwnRc w base (.slice (some ⟨g,0,none⟩) N c) xs) (ham:a+1<m) (hmb:m+1<b) (hb:b≤N) (hL:Sym.Srt (vltC cm) (Sym.seg xs a m)) (hR:Sym.Srt (vltC cm) (Sym.seg xs m b)) :
 Calls Tryz.prog 221 #[.slice (some ⟨g,0,none⟩) N c,.int .i64 a,.int .i64 m,.int .i64 b,.func (.func f) #[] lb] w fun e w'=>e=.returned (.tuple #[])∧∃ ys,Sym.Mrg (vltC cm) xs a b ys∧OwnRc w' base (.slice (some ⟨g,0,none⟩) N c) ys∧Turn w w' [g]:=by
 have H:=lh h;have HC:=lh hc.call;have eg:=hc.enter;have HM:=lh hM;have HT0:=lh ht;have HOrd:=lh ho;have HLL:=lh hL;have HRR:=lh hR;have HN:=lh hN;have HIH:=lh ih;obtain ⟨u,hu⟩:∃ u,u=m-a:=⟨_,rfl⟩;have e0:IntKind.i64.wrap ((m:Int)-(a:Int))=(u:Int):=by rw [IntWalk.i64_in _ ⟨by omega,by omega⟩];omega
 have hu1:¬ ((u:Int)=1):=by omega
 have hu2:((u:Int)==1)=false:=by simp [hu1]
 obtain ⟨v,hv⟩:∃ v,v=b-m:=⟨_,rfl⟩;have eb:IntKind.i64.wrap ((b:Int)-(m:Int))=(v:Int):=by rw [IntWalk.i64_in _ ⟨by omega,by omega⟩];omega
 have hv1:¬ ((v:Int)=1):=by omega
 have hv2:((v:Int)==1)=false:=by simp [hv1]
 obtain ⟨mid,hmid⟩:∃ mid,mid=(a+b)/2:=⟨_,rfl⟩;have hme:((a:Int)+(b:Int))/2=(mid:Int):=by omega
 obtain ⟨n,hn⟩:∃ n,n=mid+m:=⟨_,rfl⟩;have en:IntKind.i64.wrap ((mid:Int)+(m:Int))=(n:Int):=by rw [IntWalk.i64_in _ ⟨by omega,by omega⟩];omega
 obtain ⟨p,hp⟩:∃ p,p+1=n:=⟨n-1,by omega⟩;have ep:IntKind.i64.wrap ((n:Int)-1)=(p:Int):=by rw [IntWalk.i64_in _ ⟨by omega,by omega⟩];omega
 obtain ⟨lo,hlo⟩:∃ lo,lo=if mid<m then mid+m-b else a:=⟨_,rfl⟩
 obtain ⟨hi,hhi⟩:∃ hi,hi=if mid<m then mid else m:=⟨_,rfl⟩
 have hlh:lo≤hi:=by rw [hlo,hhi];split<;>omega
 have hhm:hi≤m:=by rw [hhi];split<;>omega
 have hma:a<mid:=by omega
 have hmb2:mid<b:=by omega
 have HMID:=lh hmid;have HNN:=lh hn;have HP:=lh hp;have HLO:=lh hlo;have HHI:=lh hhi;have HCUT:=lh (show ∀ s,lo≤s→s≤hi→(s=hi∨∃ (h1:p-s<xs.length) (h2:s<xs.length),vltC cm xs[p-s] xs[s]=true)→(s=lo∨∃ (h1:p-(s-1)<xs.length) (h2:s-1<xs.length),vltC cm xs[p-(s-1)] xs[s-1]=false)→Sym.CutAt (vltC cm) xs a m b s from fun s s1 s2 s3 s4=>by
  subst hmid;refine ⟨by rw [← hlo];exact s1,by rw [← hhi];exact s2,fun q=>?_,fun q=>?_⟩
  ·rw [← hhi] at q
   rcases s3 with s3 | ⟨h1,h2,h3⟩
   ·omega
   ·have e:(a+b)/2+m-1-s=p-s:=by omega
    refine ⟨by omega,h2,?_⟩;simp only [e];exact h3
  ·rw [← hlo] at q
   rcases s4 with s4 | ⟨h1,h2,h3⟩
   ·omega
   ·have e:(a+b)/2+m-s=p-(s-1):=by omega
    refine ⟨by omega,h2,?_⟩;simp only [e];exact h3)
 have HIX:=lh (show ∀ s,lo≤s→s<hi→s<N∧s≤p∧p-s<N from fun s s1 s2=>by
  rw [hlo] at s1;rw [hhi] at s2;refine ⟨by split at s2<;>omega,by split at s2<;>omega,by split at s1<;>omega⟩)
 clear h hc hM ht ho hL hR hN ih hu hv hn hp hmid;go_enter Tryz.func221,Tryz.ntmps221;go_upto_if 140 with fail;go_cut [20,21] from 138 to 146 (fun s20 s21 wx=>s20=.int .i64 lo∧s21=.int .i64 hi∧wx=w)
 case first =>
  by_cases hq:mid<m
  ·rw [if_pos hq] at hlo hhi;have el:IntKind.i64.wrap ((n:Int)-(b:Int))=(lo:Int):=by have:=HNN.out;rw [IntWalk.i64_in _ ⟨by omega,by omega⟩];omega
   subst hhi;clear hlo;go_wp2;go_meet
   case rel=>exact ⟨rfl,rfl,rfl⟩
  ·rw [if_neg hq] at hlo hhi;subst hlo;subst hhi;go_wp2;go_meet
   case rel=>exact ⟨rfl,rfl,rfl⟩
 case rest =>
  rename World=>wz;obtain ⟨rfl,rfl,hww⟩:=hcut
  replace hww:=hww.symm
  subst hww;clear hlo hhi hme en e0 eb hu1 hu2 hv1 hv2;go_wp2;go_loopw [20,21] (fun vi vj wr=>∃ i j:Nat,vi=.int .i64 i∧vj=.int .i64 j∧lo≤i∧i≤j∧j≤hi∧Hid (i=lo∨∃ (h1:p-(i-1)<xs.length) (h2:i-1<xs.length),vltC cm xs[p-(i-1)] xs[i-1]=false)∧Hid (j=hi∨∃ (h1:p-j<xs.length) (h2:j<xs.length),vltC cm xs[p-j] xs[j]=true)∧Hid (Keep w wr)) (fun vi vj _=>(intOf vj).toNat-(intOf vi).toNat)
  case atStart=>exact ⟨lo,hi,rfl,rfl,Nat.le_refl _,hlh,Nat.le_refl _,.inl rfl,.inl rfl,Keep.refl _⟩
  case round =>
   obtain ⟨i,j,rfl,rfl,hi1,hij,hj,HI,HJ,HK⟩:=hrel
   by_cases hlt:i<j
   ·obtain ⟨q,hq⟩:∃ q:Nat,q=(i+j)/2:=⟨_,rfl⟩;have hme:((i:Int)+(j:Int))/2=(q:Int):=by omega
    have hp1:i≤q:=by omega
    have hp2:q<j:=by omega
    obtain ⟨hqN,hqp,hpN⟩:=HIX.out q (by omega) (by omega);have hqx:q<xs.length:=by have:=HN.out;omega
    have hpx:p-q<xs.length:=by have:=HN.out;omega
    obtain ⟨a0,a1,a2⟩:=vownr_at (H.out.keep HK.out) HN.out q hqx;obtain ⟨b0,b1,_⟩:=vownr_at (H.out.keep HK.out) HN.out (p-q) hpx;have HCA:=lh (fun W (hW:Turn w0 W [g])=>HC.out W xs[p-q] xs[q] (HM.out _ (List.getElem_mem _)) (HM.out _ (List.getElem_mem _)) hW);have HS2:=lh (fun hz:cm xs[p-q] xs[q]<0=>(show q=hi∨∃ (h1:p-q<xs.length) (h2:q<xs.length),vltC cm xs[p-q] xs[q]=true from .inr ⟨hpx,hqx,decide_eq_true hz⟩));have HS3:=lh (fun hz:¬ cm xs[p-q] xs[q]<0=>(show q+1=lo∨∃ (h1:p-(q+1-1)<xs.length) (h2:q+1-1<xs.length),vltC cm xs[p-(q+1-1)] xs[q+1-1]=false from .inr ⟨hpx,hqx,decide_eq_false hz⟩));have HTW:=lh (HT0.out.trans (Turn.keep HK.out _));generalize cm xs[p-q] xs[q]=z at HCA HS2 HS3;generalize hxx:xs[q]=x at a0 HCA;generalize hyy:xs[p-q]=y at b0 HCA;have HXX:=lh hxx;have HYY:=lh hyy;obtain ⟨r,hr⟩:∃ r,r=p-q:=⟨_,rfl⟩;have er:IntKind.i64.wrap ((p:Int)-(q:Int))=(r:Int):=by rw [IntWalk.i64_in _ ⟨by omega,by omega⟩];omega
    rw [← hr] at b0 b1 hpN;clear hxx hyy hq hr
    by_cases hz:z<0
    ·have HZ:=lh (HS2.out hz);clear HS2 HS3;go_wp2
     first|refine Zone.wp_region_all_gro (by kernel_rfl) (by kernel_rfl) ?_|refine Zone.wp_region_all (by kernel_rfl) (by kernel_rfl) ?_
     repeat
           refine Zone.wpZ_step (fun K hK=>?_);go_simp
           first
           | (refine hK _ _ ?_;clear hK K)
           | (apply Exists.intro
              refine ⟨fun p=>?_,hK _ _ ?_⟩
              ((go_at_fn f;exact Zone.zc (HCA.out _ (HTW.out.trans (Turn.keep (by repeat first|exact kp0|apply kp1|apply kp2|apply kp3|apply kp4) _)))))
              clear hK K)
     refine Zone.wpZ_nil ?_;intro p5;simp only [Zone.fill];go_wp2;go_roundw
     case rel=>exact ⟨i,q,rfl,rfl,hi1,hp1,by omega,HI.out,HZ.out,HK.out.trans (by repeat first|exact kp0|apply kp1|apply kp2|apply kp3|apply kp4)⟩
     case measure=>simp [intOf];omega
    ·have HZ:=lh (HS3.out hz);have hdz:decide (z<0)=false:=decide_eq_false hz;clear HS2 HS3;go_wp2
     first|refine Zone.wp_region_all_gro (by kernel_rfl) (by kernel_rfl) ?_|refine Zone.wp_region_all (by kernel_rfl) (by kernel_rfl) ?_
     repeat
           refine Zone.wpZ_step (fun K hK=>?_);go_simp
           first
           | (refine hK _ _ ?_;clear hK K)
           | (apply Exists.intro
              refine ⟨fun p=>?_,hK _ _ ?_⟩
              ((go_at_fn f;exact Zone.zc (HCA.out _ (HTW.out.trans (Turn.keep (by repeat first|exact kp0|apply kp1|apply kp2|apply kp3|apply kp4) _)))))
              clear hK K)
     refine Zone.wpZ_nil ?_;intro p5;simp only [Zone.fill];go_wp2;go_roundw
     case rel=>exact ⟨q+1,j,by go_num,rfl,by omega,by omega,hj,HZ.out,HJ.out,HK.out.trans (by repeat first|exact kp0|apply kp1|apply kp2|apply kp3|apply kp4)⟩
     case measure=>simp [intOf];omega
   ·have hji:j=i:=by omega
    subst hji;have HCU:=lh (HCUT.out j hi1 hj HJ.out HI.out);clear HI HJ HIX HCUT;obtain ⟨e,he⟩:∃ e,e=n-j:=⟨_,rfl⟩;have hcp:=Sym.cut_parts HOrd.out (by omega) (by omega) (by have:=HN.out;omega) HLL.out HRR.out HCU.out;have hmid:=HMID.out;have hnn:=HNN.out;have hee:(a+b)/2+m-j=e:=by omega
    rw [hee] at hcp;obtain ⟨c1,c2,c3,c4,_,_⟩:=hcp;have ee:IntKind.i64.wrap ((n:Int)-(j:Int))=(e:Int):=by rw [IntWalk.i64_in _ ⟨by omega,by omega⟩];omega
    have hbx:b≤xs.length:=by have:=HN.out;omega
    have q1:=Sym.half_runs HOrd.out (by omega) (by omega) hbx HLL.out HRR.out HCU.out;have q2:=fun hh=>Sym.half_left HOrd.out (by omega) (by omega) hbx HLL.out HRR.out HCU.out hh;have q3:=fun (d2:List Rc) h2 hh=>Sym.half_right (d2:=d2) HOrd.out (by omega) (by omega) hbx HLL.out HRR.out HCU.out h2 hh;have q4:=fun (d2 d3:List Rc) h2 h3=>Sym.sym_done (d2:=d2) (d3:=d3) HOrd.out (by omega) (by omega) hbx HLL.out HRR.out HCU.out h2 h3;rw [hee,← hmid] at q1 q2 q3 q4;have q5:(Sym.rotL xs j m e).length=N:=(Sym.rotL_len xs j m e c2 c3 (by omega)).trans HN.out;have q6:=Sym.rot_mem (d:=xs) c2 c3 HM.out;have q7:¬ (j<m∧m<e)→Sym.rotL xs j m e=xs:=fun hh=>by
     rcases (show j=m∨e=m by omega) with h1|h1
     ·rw [h1];exact Sym.rotL_left xs m e c3
     ·rw [h1];exact Sym.rotL_right xs j m c2
    have HRT:=lh (fun (h1:j<m) (h2:m<e)=>vrot_any g c base j m e N xs HN.out (.func (.func f) #[] lb) wr (H.out.keep HK.out) h1 h2 (by omega) hl);have HQ1:=lh q1;have HQ2:=lh q2;have HQ3:=lh q3;have HQ4:=lh q4;have HQ5:=lh q5;have HQ6:=lh q6;have HQ7:=lh q7;clear q1 q2 q3 q4 q5 q6 q7 hmid hnn hee he hij;generalize hys:Sym.rotL xs j m e=ys at HRT HQ1 HQ2 HQ3 HQ4 HQ5 HQ6 HQ7;have HYS:=lh hys;clear hys;go_upto_region 39 with fail;go_cut [185] from 178 to 185 (fun sb wx=>∃ bq:Bool,sb=.bool bq∧Hid (bq=decide (j<m∧m<e))∧wx=wr)
    case first =>
     by_cases h1:j<m
     ·by_cases h2:m<e
      ·go_wp2;go_meet
       case rel=>exact ⟨_,rfl,(by show _=_;simp [h1,h2]),rfl⟩
      ·go_wp2;go_meet
       case rel=>exact ⟨_,rfl,(by show _=_;simp [h1,h2]),rfl⟩
     ·go_wp2;go_meet
      case rel=>exact ⟨_,rfl,(by show _=_;simp [h1]),rfl⟩
    case rest =>
    rename World=>wz;obtain ⟨bq,rfl,HBQ,hww⟩:=hcut
    replace hww:=hww.symm
    subst hww;go_upto_if 185 with fail;go_cut [] from 186 to 191 (fun wx=>Hid (OwnRc wx base (.slice (some ⟨g,0,none⟩) N c) ys)∧Hid (Turn wr wx [g]))
    case first =>
     by_cases hh:j<m∧m<e
     ·obtain rfl:bq=true:=HBQ.out.trans (decide_eq_true hh);have HR2:=lh (HRT.out hh.1 hh.2);clear hh HRT;go_wp2_with (go_at_call 264;refine hold ?_);refine unhold ?_;refine HR2.out.mono ?_;rintro e9 w' ⟨rfl,hO,hT⟩;have HO':=lh hO;have HT':=lh hT;clear hO hT HR2;go_wp2;go_meet
      case rel=>exact ⟨HO'.out,HT'.out⟩
     ·obtain rfl:bq=false:=HBQ.out.trans (decide_eq_false hh);have HQ:=lh (HQ7.out hh);clear hh HRT;go_wp2;go_meet
      case rel=>exact ⟨by show OwnRc _ _ _ _;rw [HQ.out];exact H.out.keep HK.out,Turn.refl _ _⟩
    case rest =>
    rename World=>w3;obtain ⟨HO3,HT3⟩:=hcut;have HT4:=lh ((Turn.keep HK.out [g]).trans HT3.out);clear HRT HQ7 HYS HT3 HK H
    trace_state
    go_upto_region 41 with fail;go_cut [199] from 192 to 199 (fun sb wx=>∃ bq:Bool,sb=.bool bq∧Hid (bq=decide (a<j∧j<mid))∧wx=w3)
    case first =>
     by_cases h1:a<j
     ·by_cases h2:j<mid
      ·go_wp2;go_meet
       case rel=>exact ⟨_,rfl,(by show _=_;simp [h1,h2]),rfl⟩
      ·go_wp2;go_meet
       case rel=>exact ⟨_,rfl,(by show _=_;simp [h1,h2]),rfl⟩
     ·go_wp2;go_meet
      case rel=>exact ⟨_,rfl,(by show _=_;simp [h1]),rfl⟩
    case rest =>
    rename World=>wz;obtain ⟨bq,rfl,HBQ,hww⟩:=hcut
    replace hww:=hww.symm
    subst hww;go_upto_if 199 with fail;go_cut [] from 200 to 205 (fun wx=>∃ d2,Hid (Sym.Mrg (vltC cm) ys a mid d2)∧Hid (OwnRc wx base (.slice (some ⟨g,0,none⟩) N c) d2)∧Hid (Turn w3 wx [g]))
    case first =>
     by_cases hh:a<j∧j<mid
     ·obtain rfl:bq=true:=HBQ.out.trans (decide_eq_true hh);have HR2:=lh (HIH.out a j mid ys w3 (by omega) HQ6.out (HT0.out.trans HT4.out) HQ5.out HO3.out hh.1 hh.2 (by omega) HQ1.out.1 HQ1.out.2.1);clear hh;go_wp2_with (go_at_call 221;refine hold ?_);refine unhold ?_;refine HR2.out.mono ?_;rintro e9 w' ⟨rfl,d2,hm2,hO,hT⟩;have HM2:=lh hm2;have HO':=lh hO;have HT':=lh hT;clear hO hT HR2 hm2;go_wp2;go_meet
      case rel=>exact ⟨d2,HM2.out,HO'.out,HT'.out⟩
     ·obtain rfl:bq=false:=HBQ.out.trans (decide_eq_false hh);have HQ:=lh (HQ2.out hh);clear hh;go_wp2;go_meet
      case rel=>exact ⟨ys,HQ.out,HO3.out,Turn.refl _ _⟩
    case rest =>
    rename World=>w4;obtain ⟨d2,HM2,HO4,HT5⟩:=hcut;have HT6:=lh (HT4.out.trans HT5.out);clear HQ2 HO3 HT5 HT4;go_upto_region 43 with fail;go_cut [213] from 206 to 213 (fun sb wx=>∃ bq:Bool,sb=.bool bq∧Hid (bq=decide (mid<e∧e<b))∧wx=w4)
    case first =>
     by_cases h1:mid<e
     ·by_cases h2:e<b
      ·go_wp2;go_meet
       case rel=>exact ⟨_,rfl,(by show _=_;simp [h1,h2]),rfl⟩
      ·go_wp2;go_meet
       case rel=>exact ⟨_,rfl,(by show _=_;simp [h1,h2]),rfl⟩
     ·go_wp2;go_meet
      case rel=>exact ⟨_,rfl,(by show _=_;simp [h1]),rfl⟩
    case rest =>
    rename World=>wz;obtain ⟨bq,rfl,HBQ,hww⟩:=hcut
    replace hww:=hww.symm
    subst hww
    by_cases hh:mid<e∧e<b
    ·obtain rfl:bq=true:=HBQ.out.trans (decide_eq_true hh);have hl2:d2.length=N:=HM2.out.len.trans HQ5.out;have s1:Sym.Srt (vltC cm) (Sym.seg d2 mid e):=by rw [Sym.seg_of_back HM2.out.back];exact HQ1.out.2.2.1
     have s2:Sym.Srt (vltC cm) (Sym.seg d2 e b):=by rw [Sym.seg_of_back (Sym.drop_of_drop (by omega) HM2.out.back)];exact HQ1.out.2.2.2
     have HR2:=lh (HIH.out mid e b d2 w4 (by omega) (HM2.out.mem HOrd.out (by omega) HQ6.out) (HT0.out.trans HT6.out) hl2 HO4.out hh.1 hh.2 hb s1 s2);clear hh hl2 s1 s2;go_wp2_with (go_at_call 221;refine hold ?_);refine unhold ?_;refine HR2.out.mono ?_;rintro e9 w' ⟨rfl,d3,hm3,hO,hT⟩;have HM3:=lh hm3;have HO':=lh hO;have HT':=lh hT;clear hO hT HR2 hm3;go_wp2;go_end0;exact ⟨rfl,d3,HQ4.out d2 d3 HM2.out HM3.out,HO'.out,HT6.out.trans HT'.out⟩
    ·obtain rfl:bq=false:=HBQ.out.trans (decide_eq_false hh);have HQ:=lh (HQ4.out d2 d2 HM2.out (HQ3.out d2 HM2.out hh));clear hh;go_wp2;go_end0;exact ⟨rfl,d2,HQ.out,HO4.out,HT6.out⟩
theorem vsym_any(f:Nat)(lb:Array Value)(cm:Rc→Rc→Int)(M:Rc→Prop)(w0:World)(g c base N:Nat)(ho:Sym.Ord (vltC cm))(hc:VCmpOk f lb cm M w0 g)(hl:N≤1000000000):∀ d,VSymOk f lb cm M w0 g c base N d
 | 0=>fun a m b _ _ hd _ _ _ _ ham hmb _ _ _=>by omega
 | d+1=>fun a m b xs w hd hM ht hN h ham hmb hb hL hR=>by
   by_cases h1:m=a+1
   ·exact vsyml_any f lb cm M w0 g c base a m b N xs w ho hc hM ht hN h h1 hmb hb hl hR
   ·by_cases h2:b=m+1
    ·exact vsymr_any f lb cm M w0 g c base a m b N xs w ho hc hM ht hN h (by omega) h2 hb hl hL
    ·exact vsymg_any f lb cm M w0 g c base N d ho hc hl (vsym_any f lb cm M w0 g c base N ho hc hl d) a m b xs w hd hM ht hN h (by omega) (by omega) hb hL hR
theorem vstab_any(f:Nat)(lb:Array Value)(cm:Rc→Rc→Int)(M:Rc→Prop)(w0:World)(g c base n:Nat)(xs:List Rc)(w:World)(ho:Sym.Ord (vltC cm))(hc:VCmpOk f lb cm M w0 g)(hM:∀ x∈xs,M x)(ht:Turn w0 w [g])(hN:xs.length=n)(h:OwnRc w base (.slice (some ⟨g,0,none⟩) n c) xs)(hl:n≤1000000000) :
 Calls Tryz.prog 180 #[.slice (some ⟨g,0,none⟩) n c,.int .i64 n,.func (.func f) #[] lb] w fun e w'=>e=.returned (.tuple #[])∧∃ ys,Sym.Stb (vltC cm) xs ys∧OwnRc w' base (.slice (some ⟨g,0,none⟩) n c) ys∧Turn w w' [g]:=by
 have H:=lh h;have HOrd:=lh ho;have HM:=lh hM;have HN:=lh hN;have HINS:=lh (fun (a b:Nat) (ys:List Rc) (W:World) (hM:∀ x∈ys,M x) (hW:Turn w W [g]) (hn:ys.length=n) (ho2:OwnRc W base (.slice (some ⟨g,0,none⟩) n c) ys) (hab:a≤b) (hb:b≤n)=>vinss_any f lb cm M w0 g c base a b n ys W ho hc hM (ht.trans hW) hn ho2 hab hb hl);have HSYM:=lh (fun (a m b:Nat) (ys:List Rc) (W:World) (hM:∀ x∈ys,M x) (hW:Turn w W [g]) (hn:ys.length=n) (ho2:OwnRc W base (.slice (some ⟨g,0,none⟩) n c) ys) (ham:a<m) (hmb:m<b) (hb:b≤n) hL hR=>vsym_any f lb cm M w0 g c base n ho hc hl (b-a) a m b ys W (Nat.le_refl _) hM (ht.trans hW) hn ho2 ham hmb hb hL hR);clear h hc hM ht hN ho;go_enter Tryz.func180,Tryz.ntmps180;go_wp2;go_loopw [7,8] (fun va vb wr=>∃ (k a b:Nat) (ys:List Rc),va=.int .i64 a∧vb=.int .i64 b∧b=a+20∧a≤n∧Hid (a=k*20)∧Hid (ys.length=n)∧Hid (Sym.Cls (vltC cm) xs ys)∧Hid (Sym.Blk (vltC cm) ys 20 (· < k))∧Hid (OwnRc wr base (.slice (some ⟨g,0,none⟩) n c) ys)∧Hid (Turn w wr [g])) (fun _ vb _=>n+20-(intOf vb).toNat)
 case atStart=>exact ⟨0,0,20,xs,rfl,rfl,rfl,Nat.zero_le _,rfl,HN.out,Sym.Cls.refl _,(fun k hk=>absurd hk (Nat.not_lt_zero _)),H.out,Turn.refl _ _⟩
 case round =>
  clear H;obtain ⟨k,a,b,ys,rfl,rfl,hb,ha,HA,HL,HCL,HB,HO,HT⟩:=hrel;have HMY:=lh (fun x hx=>HM.out x (HCL.out.symm.mem HOrd.out x hx):∀ x∈ys,M x);have hab:a≤b:=by omega
  have HBA:=lh hb;clear hb
  by_cases hlt:b≤n
  ·have e1:IntKind.i64.wrap ((b:Int)+20)=((b+20:Nat):Int):=by rw [IntWalk.i64_in _ ⟨by omega,by omega⟩];omega
   have HC:=lh (HINS.out a b ys wr HMY.out HT.out HL.out HO.out hab hlt);go_wp2_with (go_at_call 220;refine hold ?_);refine unhold ?_;refine HC.out.mono ?_;rintro e w' ⟨rfl,zs,hm,hO,hT⟩;have HMG:=lh hm;have HO':=lh hO;have HT':=lh hT;clear hm hO hT HC;go_wp2;go_roundw
   case rel=>exact ⟨k+1,b,b+20,zs,rfl,by go_num,rfl,hlt,(by show _=_;rw [Nat.add_mul,← HA.out,HBA.out]),HMG.out.len.trans HL.out,HCL.out.trans (HMG.out.cls (by omega)),(by
    have h0:=HMG.out;rw [HA.out] at h0;exact Sym.blk_step HB.out h0 (by rw [HBA.out,Nat.add_mul,← HA.out])),HO'.out,HT.out.trans HT'.out⟩
   case measure=>simp [intOf];omega
  ·have HC:=lh (HINS.out a n ys wr HMY.out HT.out HL.out HO.out ha (Nat.le_refl _));go_wp2_with (go_at_call 220;refine hold ?_);refine unhold ?_;refine HC.out.mono ?_;rintro e w' ⟨rfl,zs,hm,hO,hT⟩;have HO':=lh hO;have HT':=lh (HT.out.trans hT);have HL':=lh (hm.len.trans HL.out);have HCL':=lh (HCL.out.trans (hm.cls ha));have HB':=lh (show Sym.Blk (vltC cm) zs 20 (fun _=>True) from by
    rw [HA.out] at hm;exact Sym.blk_last HB.out hm HL.out (by rw [Nat.add_mul,← HA.out];have:=HBA.out;omega))
   clear hm hO hT HC HINS HO HT HL HCL HB HA HMY;go_wp2;go_loopw [6,7,8,9] (fun v6 _ _ _ wr=>∃ (bs:Nat) (ys:List Rc),v6=.int .i64 bs∧20≤bs∧Hid (ys.length=n)∧Hid (Sym.Cls (vltC cm) xs ys)∧Hid (Sym.Blk (vltC cm) ys bs (fun _=>True))∧Hid (OwnRc wr base (.slice (some ⟨g,0,none⟩) n c) ys)∧Hid (Turn w wr [g])) (fun v6 _ _ _ _=>n-(intOf v6).toNat)
   case atStart=>exact ⟨20,zs,rfl,Nat.le_refl _,HL'.out,HCL'.out,HB'.out,HO'.out,HT'.out⟩
   case round =>
    clear HO' HT' HL' HCL' HB';obtain ⟨bs,ys,rfl,hbs,HL,HCL,HB,HO,HT⟩:=hrel
    by_cases hbn:bs<n
    ·have e2:IntKind.i64.wrap (2*(bs:Int))=((2*bs:Nat):Int):=by rw [IntWalk.i64_in _ ⟨by omega,by omega⟩];omega
     have e3:IntKind.i64.wrap ((bs:Int)*2)=((2*bs:Nat):Int):=by rw [IntWalk.i64_in _ ⟨by omega,by omega⟩];omega
     obtain ⟨t,ht⟩:∃ t,t=2*bs:=⟨_,rfl⟩;rw [← ht] at e2 e3;have HTT:=lh ht;clear ht;go_wp2;go_loopw [7,8] (fun va vb wr=>∃ (k a b:Nat) (zs:List Rc),va=.int .i64 a∧vb=.int .i64 b∧b=a+t∧a≤n∧Hid (a=k*t)∧Hid (zs.length=n)∧Hid (Sym.Cls (vltC cm) xs zs)∧Hid (Sym.Blk (vltC cm) zs t (· < k))∧Hid (Sym.Blk (vltC cm) zs bs (2*k≤·))∧Hid (OwnRc wr base (.slice (some ⟨g,0,none⟩) n c) zs)∧Hid (Turn w wr [g])) (fun _ vb _=>n+t-(intOf vb).toNat)
     case atStart=>exact ⟨0,0,t,ys,rfl,rfl,(by omega),Nat.zero_le _,(by show _=_;omega),HL.out,HCL.out,(fun k hk=>absurd hk (Nat.not_lt_zero _)),(fun k _=>HB.out k trivial),HO.out,HT.out⟩
     case round =>
      clear HO HT HL HCL HB;obtain ⟨k,a,b,zs,rfl,rfl,hb,ha,HA,HL,HCL,HB,HB2,HO,HT⟩:=hrel;have hbt:=hb;have HBB:=lh hb;clear hb;have HMZ:=lh (fun x hx=>HM.out x (HCL.out.symm.mem HOrd.out x hx):∀ x∈zs,M x);have ht2:=HTT.out;have hA2:a=k*(2*bs):=by have:=HA.out;rw [ht2] at this;exact this
      have hruns:=Sym.two_runs HB2.out;rw [← hA2] at hruns;have HRUN:=lh hruns;have HA2:=lh hA2;clear hruns hA2;have em:IntKind.i64.wrap ((a:Int)+(bs:Int))=((a+bs:Nat):Int):=by rw [IntWalk.i64_in _ ⟨by omega,by omega⟩];omega
      by_cases hlt:b≤n
      ·have e1:IntKind.i64.wrap ((b:Int)+(t:Int))=((b+t:Nat):Int):=by rw [IntWalk.i64_in _ ⟨by omega,by omega⟩];omega
       have hbb:a+bs+bs=b:=by omega
       have HC:=lh (HSYM.out a (a+bs) b zs wr HMZ.out HT.out HL.out HO.out (by omega) (by omega) hlt HRUN.out.1 (by rw [← hbb];exact HRUN.out.2));clear ht2 hbb hbt;go_wp2_with (go_at_call 221;refine hold ?_);refine unhold ?_;refine HC.out.mono ?_;rintro e w' ⟨rfl,us,hm,hO,hT⟩;have HMG:=lh hm;have HO':=lh hO;have HT':=lh hT;clear hm hO hT HC;go_wp2;go_roundw
       case rel =>
        have ht3:=HTT.out;have hst:=Sym.two_step (k:=k) (b:=b) (d:=zs) (d':=us) (bs:=bs) (by rw [← ht3];exact HB.out) HB2.out (by rw [← HA2.out];exact HMG.out) (by rw [Nat.add_mul,Nat.one_mul,← HA2.out];have:=HBB.out;omega);rw [← ht3] at hst;exact ⟨k+1,b,b+t,us,rfl,by go_num,rfl,hlt,(by show _=_;rw [Nat.add_mul,← HA.out,HBB.out,Nat.one_mul]),HMG.out.len.trans HL.out,HCL.out.trans (HMG.out.cls (by have:=HBB.out;omega)),hst.1,hst.2,HO'.out,HT.out.trans HT'.out⟩
       case measure=>have:=HTT.out;simp [intOf];omega
      ·by_cases hmn:a+bs<n
       ·have hov:Sym.seg zs (a+bs) n=Sym.seg zs (a+bs) (a+bs+bs):=by
            have:=HL.out;rw [Sym.seg_over zs (a+bs) (a+bs+bs) (by omega),this]
        have HC:=lh (HSYM.out a (a+bs) n zs wr HMZ.out HT.out HL.out HO.out (by omega) hmn (Nat.le_refl _) HRUN.out.1 (by rw [hov];exact HRUN.out.2));clear ht2 hov hbt;go_wp2_with (go_at_call 221;refine hold ?_);refine unhold ?_;refine HC.out.mono ?_;rintro e w' ⟨rfl,us,hm,hO,hT⟩;have HMG:=lh hm;have HO':=lh hO;have HT':=lh hT;clear hm hO hT HC;go_wp2;go_roundw
        case rel =>
            have h0:=HMG.out;rw [HA.out] at h0;exact ⟨t,us,rfl,(by have:=HTT.out;omega),HMG.out.len.trans HL.out,HCL.out.trans (HMG.out.cls (by omega)),Sym.blk_last HB.out h0 HL.out (by rw [Nat.add_mul,Nat.one_mul,← HA.out];have:=HBB.out;omega),HO'.out,HT.out.trans HT'.out⟩
        case measure=>have:=HTT.out;simp [intOf];omega
       ·clear ht2 hbt;go_wp2;go_roundw
        case rel =>
            have ht3:=HTT.out;have he:=Sym.two_end (k:=k) (d:=zs) (bs:=bs) (by rw [← ht3];exact HB.out) HB2.out (by rw [← HA2.out,HL.out];omega) (by omega);rw [← ht3] at he;exact ⟨t,zs,rfl,(by omega),HL.out,HCL.out,he,HO.out,HT.out⟩
        case measure=>have:=HTT.out;simp [intOf];omega
    ·have hs:Sym.Stb (vltC cm) xs ys:=⟨Sym.blk_whole HB.out (by have:=HL.out;omega),HCL.out⟩;have HS:=lh hs;clear hs;go_wp2;go_end0;exact ⟨rfl,ys,HS.out,HO.out,HT.out⟩
end Go.Proofs.YtpkocnpamcchcaaGreatDoor
namespace Go.Star
structure SR where
 ids:List Int
 n:Int
 sums:List (Int × Int × Int)
instance:Inhabited SR:=⟨⟨[],0,[]⟩⟩
structure SN where
 depth:Nat
 lo:Nat
 hi:Nat
 kids:List (Int × Nat)
def lexL:List Int→List Int→Bool
 | [],[]=>false
 | [],_ :: _=>true
 | _ :: _,[]=>false
 | a :: r,b :: s=>decide (a<b)||(decide (a=b)&&lexL r s)
def ltR(x y:SR):Bool:=lexL x.ids y.ids
theorem lexL_irr:∀ l,lexL l l=false
 | []=>rfl
 | a :: r=>by simp [lexL,lexL_irr r]
theorem lexL_trans:∀ a b c,lexL a b=true→lexL b c=true→lexL a c=true
 | [],[],_,h,_=>by cases h
 | [],_ :: _,[],_,h=>by cases h
 | [],_ :: _,_ :: _,_,_=>rfl
 | _ :: _,[],_,h,_=>by cases h
 | _ :: _,_ :: _,[],_,h=>by cases h
 | a :: l,b :: m,c :: n,h1,h2=>by
   simp only [lexL,Bool.or_eq_true,Bool.and_eq_true,decide_eq_true_eq] at h1 h2 ⊢
   rcases h1 with h1 | ⟨rfl,h1⟩
   ·rcases h2 with h2 | ⟨rfl,h2⟩
    ·exact .inl (by omega)
    ·exact .inl h1
   ·rcases h2 with h2 | ⟨rfl,h2⟩
    ·exact .inl h2
    ·exact .inr ⟨rfl,lexL_trans l m n h1 h2⟩
theorem lexL_total:∀ a b,lexL a b=false→lexL b a=false→a=b
 | [],[],_,_=>rfl
 | [],_ :: _,h,_=>by cases h
 | _ :: _,[],_,h=>by cases h
 | a :: l,b :: m,h1,h2=>by
   simp only [lexL,Bool.or_eq_false_iff,Bool.and_eq_false_iff,decide_eq_false_iff_not] at h1 h2;have e:a=b:=by omega
   subst e
   rw [lexL_total l m (by rcases h1.2 with h|h; · exact absurd rfl h
                          ·exact h) (by rcases h2.2 with h|h; · exact absurd rfl h
                                        ·exact h)]
theorem ordS:Sym.Ord ltR:=by
 constructor
 ·intro a b h
  cases h2:ltR b a
  ·rfl
  ·have:=lexL_trans _ _ _ h h2;rw [lexL_irr] at this
   cases this
 ·intro a b c h1 h2
  cases h3:ltR c a
  ·rfl
  ·cases h4:ltR a b
   ·have e:=lexL_total _ _ h4 h1;unfold ltR at h2 h3;rw [← e,h3] at h2
    cases h2
   ·have h5:=lexL_trans _ _ _ h3 h4;unfold ltR at h2;rw [h2] at h5
    cases h5
def w64(x:Int):Int:=(x+9223372036854775808)%18446744073709551616-9223372036854775808
def addS(a b:Int × Int × Int):Int × Int × Int:=(w64 (a.1+b.1),min a.2.1 b.2.1,max a.2.2 b.2.2)
def SR.add(y x:SR):SR:=⟨y.ids,w64 (y.n+x.n),List.zipWith addS y.sums x.sums⟩
def togStep(out:List SR)(x:SR):List SR :=
 match out.getLast? with
 | none=>out++[x]
 | some y=>if y.ids=x.ids then out.dropLast++[y.add x] else out++[x]
def togF(l:List SR):List SR:=(Sym.ssort ltR l).foldl togStep []
theorem togStep_len(out:List SR)(x:SR):(togStep out x).length≤out.length+1:=by
 unfold togStep
 split
 ·simp
 ·split
  ·simp only [List.length_append,List.length_dropLast,List.length_singleton];omega
  ·simp
theorem tog_fold_len:∀ (l:List SR) (out:List SR),(l.foldl togStep out).length≤out.length+l.length
 | [],_=>Nat.le_refl _
 | x :: r,out=>by
   have h1:=tog_fold_len r (togStep out x);have h2:=togStep_len out x;simp only [List.foldl_cons,List.length_cons];omega
theorem togF_len(l:List SR):(togF l).length≤l.length:=by
 have:=tog_fold_len (Sym.ssort ltR l) [];rw [Sym.ssort_len] at this
 simpa [togF] using this
def Wide(k m:Nat)(l:List SR):Prop:=∀ x∈l,x.ids.length=k∧x.sums.length=m
theorem addW{k m:Nat}{y x:SR}(hy:y.ids.length=k∧y.sums.length=m)(hx:x.ids.length=k∧x.sums.length=m):(y.add x).ids.length=k∧(y.add x).sums.length=m:=by
 refine ⟨hy.1,?_⟩;simp [SR.add,hy.2,hx.2]
theorem togStep_wide{k m:Nat}{out:List SR}{x:SR}(h:Wide k m out)(hx:x.ids.length=k∧x.sums.length=m):Wide k m (togStep out x):=by
 intro a ha;unfold togStep at ha
 split at ha
 ·rcases List.mem_append.1 ha with ha|ha
  ·exact h a ha
  ·simp only [List.mem_singleton] at ha;subst ha;exact hx
 ·rename_i y hy;have hym:y∈out:=List.mem_of_getLast? hy
  split at ha
  ·rcases List.mem_append.1 ha with ha|ha
   ·exact h a (List.dropLast_subset _ ha)
   ·simp only [List.mem_singleton] at ha;subst ha;exact addW (h y hym) hx
  ·rcases List.mem_append.1 ha with ha|ha
   ·exact h a ha
   ·simp only [List.mem_singleton] at ha;subst ha;exact hx
theorem tog_fold_wide{k m:Nat}:∀ (l out:List SR),Wide k m out→Wide k m l→Wide k m (l.foldl togStep out)
 | [],_,h,_=>h
 | x :: r,out,h,hl=>tog_fold_wide r _ (togStep_wide h (hl x (by simp))) fun a ha=>hl a (by simp [ha])
theorem togF_wide{k m:Nat}{l:List SR}(h:Wide k m l):Wide k m (togF l) :=
 tog_fold_wide _ _ (fun _ hx=>by cases hx) fun a ha=>h a ((Sym.ssort_mem ordS l a).1 ha)
def idAt(rs:List SR)(i d:Nat):Int:=(rs.getD i default).ids.getD d 0
def endF(rs:List SR)(d:Nat)(id:Int)(tt:Nat):Nat→Nat→Nat
 | 0,e=>e
 | f+1,e=>if e<tt∧idAt rs e d=id then endF rs d id tt f (e+1) else e
theorem endF_ge(rs:List SR)(d:Nat)(id:Int)(tt:Nat):∀ f e,e≤endF rs d id tt f e
 | 0,e=>Nat.le_refl _
 | f+1,e=>by
   unfold endF
   split
   ·have:=endF_ge rs d id tt f (e+1);omega
   ·exact Nat.le_refl _
theorem endF_le(rs:List SR)(d:Nat)(id:Int)(tt:Nat):∀ f e,e≤tt→endF rs d id tt f e≤tt
 | 0,e,h=>h
 | f+1,e,h=>by
   unfold endF
   split
   ·rename_i hc;exact endF_le rs d id tt f (e+1) (by omega)
   ·exact h
theorem endF_gt(rs:List SR)(d tt at_:Nat)(h:at_<tt):at_<endF rs d (idAt rs at_ d) tt (tt-at_) at_:=by
 obtain ⟨f,hf⟩:∃ f,tt-at_=f+1:=⟨tt-at_-1,by omega⟩;rw [hf];unfold endF;rw [if_pos ⟨h,rfl⟩];have:=endF_ge rs d (idAt rs at_ d) tt f (at_+1);omega
def loopF(g:Nat→Nat→List SR→Nat→List SR × List SN)(d tt n:Nat):Nat→Nat→List (Int × Nat)→List SR→List SN→List (Int × Nat) × List SR × List SN
 | 0,_,kids,rs,ns=>(kids,rs,ns)
 | f+1,at_,kids,rs,ns =>
   if at_<tt then
    let e:=endF rs d (idAt rs at_ d) tt (tt-at_) at_
    let r:=g at_ e rs (n+1+ns.length)
    loopF g d tt n f e (kids++[(idAt rs at_ d,n+1+ns.length)]) r.1 (ns++r.2)
   else (kids,rs,ns)
def starR(d:Nat)(x:SR):SR:={ x with ids:=x.ids.set d (-1) }
def cutR(rs:List SR)(lo hi:Nat):List SR:=(rs.drop lo).take (hi-lo)
def growF(leaf:Nat):Nat→Nat→Nat→Nat→Bool→List SR→Nat→List SR × List SN
 | 0,depth,lo,hi,_,rs,_=>(rs,[⟨depth,lo,hi,[]⟩])
 | f+1,depth,lo,hi,starred,rs,n =>
   if hi-lo≤leaf then (rs,[⟨depth,lo,hi,[]⟩])
   else
    let r:=loopF (fun a e rs n=>growF leaf f (depth+1) a e starred rs n) depth hi n (hi-lo) lo [] rs []
    if starred then (r.2.1,⟨depth,lo,hi,r.1⟩ :: r.2.2)
    else
     let l:=togF ((cutR r.2.1 lo hi).map (starR depth))
     let q:=growF leaf f (depth+1) r.2.1.length (r.2.1.length+l.length) true (r.2.1++l) (n+1+r.2.2.length)
     (q.1,⟨depth,lo,hi,r.1++[(-1,n+1+r.2.2.length)]⟩ :: (r.2.2++q.2))
def wN(ns:List SN):Nat:=(ns.map fun x=>13+8*x.kids.length).sum
theorem wN_app(a b:List SN):wN (a++b)=wN a+wN b:=by simp [wN]
theorem wN_cons(x:SN)(b:List SN):wN (x :: b)=13+8*x.kids.length+wN b:=by simp [wN]
def sumU:Nat→Nat
 | 0=>0
 | f+1=>sumU f+f+2
theorem sumU_le:∀ f,sumU f+1≤(f+1)*(f+1)
 | 0=>by decide
 | f+1=>by
   have:=sumU_le f;have e:(f+1+1)*(f+1+1)=(f+1)*(f+1)+2*(f+1)+1:=by
    rw [Nat.add_mul,Nat.mul_add,Nat.mul_add];omega
   unfold sumU;omega
structure Adds(rs:List SR)(r:List SR × List SN)(k m a b:Nat):Prop where
 pre:∃ x,r.1=rs++x∧x.length≤a
 wide:Wide k m rs→Wide k m r.1
 wt:wN r.2≤b
theorem loop_adds{g:Nat→Nat→List SR→Nat→List SR × List SN}{d tt n k m A B:Nat}(hg:∀ lo hi rs n,lo<hi→hi≤tt→tt≤rs.length→Adds rs (g lo hi rs n) k m ((hi-lo)*A) (13+21*((hi-lo)*B))) :
 ∀ (f at_:Nat) (kids:List (Int × Nat)) (rs:List SR) (ns:List SN),at_≤tt→tt≤rs.length→(loopF g d tt n f at_ kids rs ns).1.length≤kids.length+(tt-at_)∧8*(loopF g d tt n f at_ kids rs ns).1.length+wN (loopF g d tt n f at_ kids rs ns).2.2≤8*kids.length+wN ns+21*((tt-at_)*(B+1))∧(∃ x,(loopF g d tt n f at_ kids rs ns).2.1=rs++x∧x.length≤(tt-at_)*A)∧(Wide k m rs→Wide k m (loopF g d tt n f at_ kids rs ns).2.1)
 | 0,at_,kids,rs,ns,_,_=>⟨by simp [loopF],by simp [loopF],⟨[],by simp [loopF],by simp⟩,id⟩
 | f+1,at_,kids,rs,ns,h1,h2=>by
   unfold loopF
   split
   ·rename_i hlt;simp only [];obtain ⟨e,he⟩:∃ e,e=endF rs d (idAt rs at_ d) tt (tt-at_) at_:=⟨_,rfl⟩;have e1:at_<e:=he ▸ endF_gt rs d tt at_ hlt;have e2:e≤tt:=he ▸ endF_le rs d _ tt _ at_ h1;rw [← he];have ha:=hg at_ e rs (n+1+ns.length) e1 e2 h2;generalize g at_ e rs (n+1+ns.length)=r at ha ⊢;obtain ⟨x,hx,hxl⟩:=ha.pre;have hlen:tt≤r.1.length:=by rw [hx];simp;omega
    obtain ⟨i0,i1,⟨y,hy,hyl⟩,i3⟩:=loop_adds hg f e (kids++[(idAt rs at_ d,n+1+ns.length)]) r.1 (ns++r.2) e2 hlen;generalize loopF g d tt n f e (kids++[(idAt rs at_ d,n+1+ns.length)]) r.1 (ns++r.2)=q at i0 i1 hy i3 ⊢;have hw:=ha.wt;rw [wN_app] at i1;simp only [List.length_append,List.length_cons,List.length_nil] at i0 i1;have hm:(tt-at_)*A=(e-at_)*A+(tt-e)*A:=by rw [← Nat.add_mul];congr 1;omega
    have hm2:(tt-at_)*(B+1)=(e-at_)*B+(e-at_)+(tt-e)*(B+1):=by
     rw [← Nat.mul_succ,← Nat.add_mul];congr 1;omega
    refine ⟨by omega,by omega,⟨x++y,by rw [hy,hx,List.append_assoc],by simp;omega⟩,fun hW=>i3 (ha.wide hW)⟩
   ·exact ⟨by simp,by simp,⟨[],by simp,by simp⟩,id⟩
theorem starR_wide{k m d:Nat}{l:List SR}(h:Wide k m l):Wide k m (l.map (starR d)):=by
 intro a ha;obtain ⟨x,hx,rfl⟩:=List.mem_map.1 ha
 simpa [starR] using h x hx
theorem cut_wide{k m lo hi:Nat}{l:List SR}(h:Wide k m l):Wide k m (cutR l lo hi):=fun a ha=>h a (List.mem_of_mem_drop (List.mem_of_mem_take ha))
theorem cut_len(l:List SR)(lo hi:Nat):(cutR l lo hi).length≤hi-lo:=by simp [cutR];omega
theorem star_adds(leaf k m:Nat):∀ (f depth lo hi:Nat) (rs:List SR) (n:Nat),lo≤hi→hi≤rs.length→Adds rs (growF leaf f depth lo hi true rs n) k m ((hi-lo)*0) (13+21*((hi-lo)*f))
 | 0,depth,lo,hi,rs,n,_,_=>⟨⟨[],by simp [growF],by simp⟩,id,by simp [growF,wN]⟩
 | f+1,depth,lo,hi,rs,n,h1,h2=>by
   unfold growF
   split
   ·exact ⟨⟨[],by simp,by simp⟩,id,by simp [wN]⟩
   ·simp only [if_true];obtain ⟨i0,i1,⟨y,hy,hyl⟩,i3⟩:=loop_adds (d:=depth) (tt:=hi) (n:=n) (k:=k) (m:=m) (A:=0) (B:=f) (g:=fun a e rs n=>growF leaf f (depth+1) a e true rs n) (fun lo' hi' rs' n' h3 h4 h5=>star_adds leaf k m f (depth+1) lo' hi' rs' n' (by omega) (by omega)) (hi-lo) lo [] rs [] h1 h2;generalize loopF _ depth hi n (hi-lo) lo [] rs []=q at i0 i1 hy i3 ⊢;refine ⟨⟨y,hy,hyl⟩,i3,?_⟩;rw [wN_cons];simp only [List.length_nil] at i1;have hz:wN []=0:=rfl;rw [hz] at i1;simp only at i1 ⊢;omega
theorem grow_adds(leaf k m:Nat)(hleaf:1≤leaf):∀ (f depth lo hi:Nat) (rs:List SR) (n:Nat),lo≤hi→hi≤rs.length→Adds rs (growF leaf f depth lo hi false rs n) k m ((hi-lo)*f) (13+21*((hi-lo)*sumU f))
 | 0,depth,lo,hi,rs,n,_,_=>⟨⟨[],by simp [growF],by simp⟩,id,by simp [growF,wN]⟩
 | f+1,depth,lo,hi,rs,n,h1,h2=>by
   unfold growF
   split
   ·exact ⟨⟨[],by simp,by simp⟩,id,by simp [wN]⟩
   ·rename_i hlf;simp only [Bool.false_eq_true,if_false];obtain ⟨i0,i1,⟨y,hy,hyl⟩,i3⟩:=loop_adds (d:=depth) (tt:=hi) (n:=n) (k:=k) (m:=m) (A:=f) (B:=sumU f) (g:=fun a e rs n=>growF leaf f (depth+1) a e false rs n) (fun lo' hi' rs' n' h3 h4 h5=>grow_adds leaf k m hleaf f (depth+1) lo' hi' rs' n' (by omega) (by omega)) (hi-lo) lo [] rs [] h1 h2;generalize loopF _ depth hi n (hi-lo) lo [] rs []=q at i0 i1 hy i3 ⊢;have hcl:=cut_len q.2.1 lo hi;have htl:=togF_len ((cutR q.2.1 lo hi).map (starR depth));rw [List.length_map] at htl;generalize hL:togF ((cutR q.2.1 lo hi).map (starR depth))=L at htl ⊢;have ha:=star_adds leaf k m f (depth+1) q.2.1.length (q.2.1.length+L.length) (q.2.1++L) (n+1+q.2.2.length) (by omega) (by simp);generalize growF leaf f (depth+1) q.2.1.length (q.2.1.length+L.length) true (q.2.1++L) (n+1+q.2.2.length)=p at ha ⊢;obtain ⟨x,hx,hxl⟩:=ha.pre;have hx0:x=[]:=List.eq_nil_of_length_eq_zero (by simpa using hxl);subst hx0;have hw:=ha.wt;have hz:wN []=0:=rfl;rw [hz] at i1;simp only [List.length_nil] at i1;have e1:q.2.1.length+L.length-q.2.1.length=L.length:=by omega
    rw [e1] at hw;have hLf:L.length*f≤(hi-lo)*f:=Nat.mul_le_mul_right _ (by omega);refine ⟨⟨y++L,by rw [hx,hy];simp,?_⟩,fun hW=>ha.wide fun a hm=>?_,?_⟩
    ·rw [Nat.mul_succ];simp;omega
    ·rcases List.mem_append.1 hm with hm|hm
     ·exact i3 hW a hm
     ·exact togF_wide (k:=k) (m:=m) (l:=(cutR q.2.1 lo hi).map (starR depth)) (starR_wide (cut_wide (i3 hW))) a (hL ▸ hm)
    ·rw [wN_cons,wN_app];simp only [List.length_append,List.length_cons,List.length_nil];have e2:(hi-lo)*sumU (f+1)=(hi-lo)*(sumU f+1)+(hi-lo)*f+(hi-lo):=by
      rw [← Nat.mul_add,← Nat.mul_succ];congr 1;rw [show sumU (f+1)=sumU f+f+2 from rfl];omega
     omega
end Go.Star
