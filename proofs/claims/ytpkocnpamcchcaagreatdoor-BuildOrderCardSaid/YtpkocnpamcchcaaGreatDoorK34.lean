/- Parts of the proof. -/
import Derived.Test.YtpkocnpamcchcaaGreatDoorK33
set_option maxRecDepth 100000
set_option maxHeartbeats 4000000
set_option linter.unusedSimpArgs false
set_option linter.unusedVariables false
set_option linter.unnecessarySimpa false
namespace Go.Proofs.YtpkocnpamcchcaaGreatDoor
open Go.RowKit Go.Zone Go.Shelf
attribute [local go_sem] zone stepZ fill lookFs goes goesUpon dropFs cell_gro frozen_gro size_gro lt_add drew_gro tape_gro keep_refl
attribute [local go_sem] lt_add2 lt_add3 lt_add4 lt_add5 lt_add6 lt_add7 lt_add8 lt_add9 lt_add10 lt_add11 lt_add12
def GrowOk(leaf k m base f:Nat):Prop:=∀ (gt depth lo hi:Nat) (st:Bool) (vr vn:Value) (P:List (Rc × Star.SR)) (N:List (Nc × Star.SN)) (w:World),depth+f=k→StarAt w gt base k m leaf vr vn P N→lo≤hi→hi≤P.length→base≤w.heap.size →
 (Star.growF leaf f depth lo hi st (P.map fun p=>p.2) N.length).1.length≤1000000→N.length+(Star.growF leaf f depth lo hi st (P.map fun p=>p.2) N.length).2.length≤1000000 →
 Calls Tryz.prog 85 #[.pointer (some ⟨gt,0,none⟩),.int .i64 depth,.int .i64 lo,.int .i64 hi,.bool st] w fun e w'=>e=.returned (.int .i64 (N.length:Int))∧∃ vr' vn' P' NX,StarAt w' gt base k m leaf vr' vn' P' (N++NX)∧(P'.map fun p=>p.2)=(Star.growF leaf f depth lo hi st (P.map fun p=>p.2) N.length).1∧(NX.map fun p=>p.2)=(Star.growF leaf f depth lo hi st (P.map fun p=>p.2) N.length).2∧(∀ p∈NX,∀ b,kblk p.1=some b→w.heap.size≤b)∧Gw base gt w w'
theorem grow_node(leaf k m base f:Nat)(hk8:k≤8)(hlf:1≤leaf)(hm:m≤1000)(ih:∀ f',f=f'+1→GrowOk leaf k m base f'):GrowOk leaf k m base f:=by
 intro gt depth lo hi st vr vn P N w hd hS hlh hhi hbw hB1 hB2;have HS:=lh hS;have HB1:=lh hB1;have HB2:=lh hB2;have HIH:=lh ih;obtain ⟨An,cn,hvn⟩:=own_form hS.nodes;rw [List.length_map] at hvn;have hNl:N.length≤1000000:=by omega
 have hhi6:hi≤1000000:=by
  obtain ⟨x,hx⟩:=Star.grow_pre leaf f depth lo hi st (P.map fun p=>p.2) N.length;rw [hx,List.length_append,List.length_map] at hB1;omega
 have x0:=hS.row.cell 0 _ rfl;have x2:=hS.row.cell 2 _ rfl;have x4:=hS.row.cell 4 _ rfl;have hgt:=hS.row.lt;have HN0:=lh (show ∀ p∈N,∀ b,kblk p.1=some b→b<w.heap.size from fun p hp b hb=>((hS.na p hp).own.lt b hb).2);rw [hvn] at x4;have HVN:=lh hvn;clear hS hB1 hB2 ih hvn;generalize hNn:N.length=n at *;go_enter Tryz.func85,Tryz.ntmps85;go_upto_region 2 with fail;go_wp2_with (at_builtin;refine hold ?_);refine unhold ?_;have hke:Keep w (w.alloc (.cells #[.int .i64 depth,.int .i64 lo,.int .i64 hi,.slice none 0 0] 117)):=(by repeat first|exact kp0|apply kp1|apply kp2|apply kp3|apply kp4);have hsl:Sl (w.alloc (.cells #[.int .i64 depth,.int .i64 lo,.int .i64 hi,.slice none 0 0] 117)) 4 Nc.cells (some ⟨w.heap.size,0,none⟩) 1 [(⟨depth,lo,hi,none,0,0⟩:Nc)]:=sl_one _ (by omega) (by omega) fun j u hu=>(row_alloc w 117 [.int .i64 depth,.int .i64 lo,.int .i64 hi,.slice none 0 0]).cell j u hu;generalize w.alloc (.cells #[.int .i64 depth,.int .i64 lo,.int .i64 hi,.slice none 0 0] 117)=w7 at hke hsl ⊢;have HS7:=lh (HS.out.keep hke);have HN7:=lh (show OwnNc w7 base (.slice An n cn) (N.map fun p=>p.1) from HVN.out ▸ HS7.out.nodes);have HK7:=lh hke;clear x0 x2 x4 hgt hke;refine wpList_app elt_nc nc_len nc_one rfl (.tmp 28) (.tmp 33) rfl (ys:=[(⟨depth,lo,hi,none,0,0⟩:Nc)]) HN7.out rfl rfl hsl (by rw [List.length_map,hNn];simp;omega) (Nat.le_trans hbw HK7.out.size) ?_;intro v8 w8 hown8 hg8 _;obtain ⟨A8,c8,hv8⟩:=own_form hown8
 rw [List.length_append,List.length_map,hNn,List.length_singleton] at hv8;subst hv8;have hr8:Row w8 gt 153 (trC k m leaf vr vn):=(Turn.of_grown hg8).row HS7.out.row fun hm=>own_row_ne HN7.out HS7.out.row (by decide) (by simpa using hm);have hg8':w7.grownBy w8 vn.ownBlock:=HVN.out ▸ hg8;obtain ⟨hS9,hG9⟩:=HS7.out.app_node hown8 hg8' (x:=⟨depth,lo,hi,[]⟩) ⟨rfl,rfl,rfl,Own.nil_ _ _ _ _ _⟩;have HS9:=lh hS9;have HG9:=lh ((Gw.keep HK7.out base gt).trans hG9);have x4:=hr8.cell 4 _ rfl;have q4:=hr8.soft 4;have hgt:=hr8.lt;have hbw8:=Nat.le_trans (Nat.le_trans hbw HK7.out.size) hg8.size;clear hown8 hg8 hg8' hr8 hS9 hG9 hsl HN7 HS7 HK7 HS;go_upto_region 3 with fail;have hz9:base≤(w8.setCell ⟨gt,4,none⟩ (.slice A8 (n+1) c8)).heap.size:=by simpa using hbw8
 generalize w8.setCell ⟨gt,4,none⟩ (.slice A8 (n+1) c8)=w9 at HS9 HG9 hz9 ⊢;have x0:=HS9.out.row.cell 0 _ rfl;have x2:=HS9.out.row.cell 2 _ rfl;have hgt9:=HS9.out.row.lt;have hbw0:=hbw;clear x4 q4 hgt hbw8 hbw;obtain ⟨q,hq⟩:∃ q,q=hi-lo:=⟨_,rfl⟩;have e1:IntKind.i64.wrap ((hi:Int)-(lo:Int))=(q:Int):=by rw [IntWalk.i64_in _ ⟨by omega,by omega⟩];omega
 by_cases hl0:f=0∨hi-lo≤leaf
 ·have hgl:=Star.grow_leaf leaf f depth lo hi n st (P.map fun p=>p.2) hl0;have HEND:=lh (show ∃ vr' vn' P' NX,StarAt w9 gt base k m leaf vr' vn' P' (N++NX)∧(P'.map fun p=>p.2)=(Star.growF leaf f depth lo hi st (P.map fun p=>p.2) n).1∧(NX.map fun p=>p.2)=(Star.growF leaf f depth lo hi st (P.map fun p=>p.2) n).2∧(∀ p∈NX,∀ b,kblk p.1=some b→w.heap.size≤b)∧Gw base gt w w9 from ⟨vr,.slice A8 (n+1) c8,P,[(⟨depth,lo,hi,none,0,0⟩,⟨depth,lo,hi,[]⟩)],HS9.out,by rw [hgl],by rw [hgl];rfl,(fun p hp b hb=>by rw [List.mem_singleton] at hp;subst hp;cases hb),HG9.out⟩);clear hgl HB1 HB2 HIH HS9 HG9
  by_cases hf0:depth=k
  ·have hdk:((depth:Int)==(k:Int))=true:=by simp [hf0]
   subst hf0;clear hl0 hd e1;go_wp2;go_ret;exact ⟨rfl,HEND.out⟩
  ·have hdk:((depth:Int)==(k:Int))=false:=by simp;omega
   have hql:q≤leaf:=by
    rcases hl0 with h|h
    ·omega
    ·omega
   clear hl0 hd;go_wp2;go_ret;exact ⟨rfl,HEND.out⟩
 ·obtain ⟨f',rfl⟩:∃ f',f=f'+1:=⟨f-1,by omega⟩;have hnl:¬ hi-lo≤leaf:=fun h=>hl0 (.inr h);have hdk:depth<k:=by omega
  have hdk0:((depth:Int)==(k:Int))=false:=by simp;omega
  have hql:¬ q≤leaf:=by omega
  have hd8:depth<8:=by omega
  have HQ:=lh hq;have HNL:=lh hnl;have HD:=lh hd;obtain ⟨R,hR⟩:∃ R,R=Star.loopF (fun a e rs n=>Star.growF leaf f' (depth+1) a e st rs n) depth hi n (hi-lo) lo [] (P.map fun p=>p.2) []:=⟨_,rfl⟩;obtain ⟨Rk,Rr,Rn⟩:=R;have hge:=Star.grow_ge leaf f' depth lo hi n st (P.map fun p=>p.2) hnl hR.symm;have HRR:=lh (show Rr.length≤1000000∧n+1+Rn.length≤1000000 from ⟨Nat.le_trans hge.1 HB1.out,by have:=hge.2;have:=HB2.out;omega⟩);have HR:=lh hR;have hhp:hi≤(P.map fun p=>p.2).length:=by rw [List.length_map];exact hhi
  clear hl0 hnl hd hq hge hR;go_wp2;have hn6:n+1≤1000000:=by have:=HRR.out.2;omega
  clear e1 hdk0 hql x0 x2;go_loopw [12,13] (fun vk va wr=>∃ (at_ fu:Nat) (ks:List (Int × Nat)) (vr' vn':Value) (P':List (Rc × Star.SR)) (NX:List (Nc × Star.SN)) (ns:List Star.SN),va=.int .i64 at_∧lo≤at_∧at_≤hi∧hi-at_≤fu∧ks.length+lo≤at_∧Hid (hi≤P'.length)∧Hid (OwnKd wr w.heap.size vk ks)∧Hid (StarAt wr gt base k m leaf vr' vn' P' (N++NX))∧Hid ((NX.map fun p=>p.2)=⟨depth,lo,hi,[]⟩ :: ns)∧Hid (∀ p∈NX,∀ b,kblk p.1=some b→w.heap.size≤b∧vk.ownBlock≠some b) ∧
   Hid ((Rk,Rr,Rn)=Star.loopF (fun a e rs n=>Star.growF leaf f' (depth+1) a e st rs n) depth hi n fu at_ ks (P'.map fun p=>p.2) ns)∧Hid (Gw base gt w wr)∧Hid (base≤wr.heap.size)) (fun _ va _=>hi-(intOf va).toNat)
  case atStart =>
   exact ⟨lo,hi-lo,[],vr,.slice A8 (n+1) c8,P,[((⟨depth,lo,hi,none,0,0⟩:Nc),(⟨depth,lo,hi,[]⟩:Star.SN))],[],rfl,Nat.le_refl _,hlh,Nat.le_refl _,by simp,hhi,Own.nil_ _ _ _ _ _,HS9.out,rfl,(fun p hp b hb=>by rw [List.mem_singleton] at hp;subst hp;cases hb),HR.out,HG9.out,hz9⟩
  case round =>
   clear HS9 HG9 hz9 hgt9;obtain ⟨at_,fu,ks,vr',vn',P',NX,ns,rfl,ha1,ha2,ha3,ha4,HP,HK,HS,HN,HKB,HL,HG,HBZ⟩:=hrel;obtain ⟨Ak,ck,hvk⟩:=own_form HK.out;subst hvk
   by_cases hlt:at_<hi
   ·have hp0:=HP.out;have hrl:(P'.map fun p=>p.1).length=P'.length:=List.length_map _;obtain ⟨Ar,cr,hvr⟩:=own_form HS.out.recs;rw [hrl] at hvr;subst hvr;obtain ⟨gr,rfl,-⟩:=vown_some HS.out.recs (by rw [hrl];omega);have hgr:=(HS.out.recs.lt gr rfl).2;obtain ⟨np,hnp⟩:∃ np,np=P'.length:=⟨_,rfl⟩;have c0:wr.cell? ⟨gr,at_*10+depth,none⟩=some (.int .i64 (Star.idAt (P'.map fun p=>p.2) at_ depth)):=rec_id HS.out.recs HS.out.ra rfl at_ depth (by omega) hd8;have HID:=lh (fun e (he:e<hi)=>(rec_id HS.out.recs HS.out.ra rfl e depth (by omega) hd8:wr.cell? ⟨gr,e*10+depth,none⟩=some (.int .i64 (Star.idAt (P'.map fun p=>p.2) e depth))));have x3:=HS.out.row.cell 3 _ rfl;have hgtw:=HS.out.row.lt;rw [← hnp] at x3;have HNP:=lh hnp;have hnp1:hi≤np:=by omega
    generalize hid0:Star.idAt (P'.map fun p=>p.2) at_ depth=id at c0;have HI0:=lh hid0;clear hid0 hp0 hrl hnp;go_wp2;go_loopw [15] (fun ve wq=>∃ e:Nat,ve=.int .i64 e∧at_≤e∧e≤hi∧wq=wr∧Hid (Star.endF (P'.map fun p=>p.2) depth id hi (hi-at_) at_=Star.endF (P'.map fun p=>p.2) depth id hi (hi-e) e)) (fun ve _=>hi-(intOf ve).toNat)
    case atStart=>exact ⟨at_,rfl,Nat.le_refl _,ha2,rfl,rfl⟩
    case round =>
     clear c0;obtain ⟨e,rfl,he1,he2,rfl,HE⟩:=hrel;go_upto_region 10 with fail;go_cut [85] from 69 to 85 (fun s85 wx=>∃ b:Bool,s85=.bool b∧wx=wr∧Hid (b=true→e<hi∧Star.idAt (P'.map fun p=>p.2) e depth=id)∧Hid (b=false→e=hi∨Star.idAt (P'.map fun p=>p.2) e depth≠id))
     case first =>
      by_cases heh:e<hi
      ·have c1:=HID.out e heh;have hep:e<np:=by omega
       generalize hv:Star.idAt (P'.map fun p=>p.2) e depth=v at c1;have HV:=lh hv;clear hv;go_wp2_with fail;go_meet;exact ⟨_,rfl,rfl,fun h=>⟨heh,by rw [HV.out];simpa using h⟩,fun h=>.inr (by rw [HV.out];simpa using h)⟩
      ·have hee:e=hi:=by omega
       have HEE:=lh hee;clear hee;go_wp2_with fail;go_meet;exact ⟨false,rfl,rfl,fun h=>(by cases h),fun _=>.inl HEE.out⟩
     case rest =>
      obtain ⟨b,rfl,rfl,HB1',HB2'⟩:=hcut
      cases b with
      | true =>
        have h1:=HB1'.out rfl;have he3:=h1.1;have HE2:=lh (HE.out.trans (Star.endF_step _ depth id hi e h1.1 h1.2));clear h1 HB1' HB2';go_wp2;go_roundw
        case rel=>exact ⟨e+1,by go_num,by omega,by omega,(by first|rfl|trivial),HE2.out⟩
        case measure=>simp [intOf];omega
      | false =>
        have hst:=HB2'.out rfl;have HE2:=lh (show e=Star.endF (P'.map fun p=>p.2) depth id hi (hi-at_) at_ from (HE.out.trans (Star.endF_stop _ depth id hi e hst)).symm);have hae:at_<e:=by
             have:=HE2.out;rw [← HI0.out] at this;rw [this];exact Star.endF_gt _ depth hi at_ hlt
        clear hst HB1' HB2' HE;obtain ⟨fu',rfl⟩:∃ fu',fu=fu'+1:=⟨fu-1,by omega⟩;have hnx:NX.length=1+ns.length:=by
             have:=congrArg List.length HN.out
             simpa [Nat.add_comm] using this
        have hNX:(N++NX).length=n+1+ns.length:=by rw [List.length_append,hNn];omega
        have hstep:=HL.out;rw [Star.loop_step fu' at_ e (N++NX).length ks (P'.map fun p=>p.2) ns id hlt HI0.out.symm HE2.out hNX] at hstep;have hpre:=Star.loop_pre (g:=fun a e rs n=>Star.growF leaf f' (depth+1) a e st rs n) (d:=depth) (tp:=hi) (n:=n) (fun a e rs n=>Star.grow_pre leaf f' (depth+1) a e st rs n) fu' e (ks++[(id,(N++NX).length)]) (Star.growF leaf f' (depth+1) at_ e st (P'.map fun p=>p.2) (N++NX).length).1 (ns++(Star.growF leaf f' (depth+1) at_ e st (P'.map fun p=>p.2) (N++NX).length).2);rw [← hstep] at hpre;obtain ⟨_,⟨y1,hy1⟩,⟨z1,hz1⟩⟩:=hpre;simp only at hy1 hz1;have hb1:=congrArg List.length hy1;have hb2:=congrArg List.length hz1;rw [List.length_append] at hb1;rw [List.length_append,List.length_append] at hb2;have hrr:=HRR.out;have hcall:=HIH.out f' rfl gt (depth+1) at_ e st _ vn' P' (N++NX) wc (by have:=HD.out;omega) HS.out (by omega) (by have:=HP.out;omega) HBZ.out (by omega) (by omega);have HC:=lh hcall;have HST:=lh hstep;have HNX:=lh hNX;have HGE:=lh (show hi≤(Star.growF leaf f' (depth+1) at_ e st (P'.map fun p=>p.2) (N++NX).length).1.length by
             obtain ⟨x,hx⟩:=Star.grow_pre leaf f' (depth+1) at_ e st (P'.map fun p=>p.2) (N++NX).length;rw [hx,List.length_append,List.length_map];have:=HP.out;omega)
        clear hcall hstep hNX hnx hb1 hb2 hy1 hz1 hrr HL;go_wp2_with (go_at_call 85;refine hold ?_);refine unhold ?_;rw [show ((depth:Int)+1)=((depth+1:Nat):Int) by omega];refine HC.out.mono ?_;rintro e' w2 ⟨rfl,vr2,vn2,P2,NY,hS2,hP2,hN2,hB2,hG2⟩;have hkd2:=Gw.own HK.out hG2 (by decide) (by decide) HS.out.row (by decide);have HS2:=lh hS2;have HP2:=lh hP2;have HN2:=lh hN2;have HKD2:=lh hkd2;have HG2:=lh (HG.out.trans hG2);have HSZ2:=lh hG2.size;have HKL:=lh (show ∀ b,(Value.slice Ak ks.length ck).ownBlock=some b→b<wc.heap.size from fun b hb=>(HK.out.lt b hb).2);have HB2:=lh hB2;clear hS2 hP2 hN2 hkd2 hG2 hB2 HC HS HK x3 hgtw hgr;generalize hmm:(N++NX).length=mm;have HMM:=lh hmm;clear hmm;go_wp2_with (at_builtin;refine hold ?_);refine unhold ?_;have hsl:Sl (w2.alloc (.cells #[.int .i64 id,.int .i64 mm] 119)) 2 kdC (some ⟨w2.heap.size,0,none⟩) 1 [(id,mm)]:=sl_one _ (by omega) (by omega) fun j u hu=>(row_alloc w2 119 [.int .i64 id,.int .i64 mm]).cell j u hu;have hke:Keep w2 (w2.alloc (.cells #[.int .i64 id,.int .i64 mm] 119)):=Keep.alloc (Keep.refl _) _;generalize w2.alloc (.cells #[.int .i64 id,.int .i64 mm] 119)=w3 at hsl hke ⊢;have HKE:=lh hke;have HKD3:=lh (HKD2.out.keep hke);refine wpList_app elt_kd kd_len kd_one rfl (.tmp 88) (.tmp 98) rfl (ys:=[(id,mm)]) HKD3.out rfl rfl hsl (by simp;omega) (Nat.le_trans HG2.out.size hke.size) ?_;intro v4 w4 hown4 hg4 hd4;obtain ⟨A4,c4,hv4⟩:=own_form hown4;rw [List.length_append,List.length_singleton] at hv4;subst hv4;have HO4:=lh hown4
        have HS4:=lh (show StarAt w4 gt base k m leaf vr2 vn2 P2 (N++NX++NY) from (HS2.out.keep hke).grown_kd HKD3.out hg4 fun p hp i hi hv=>by
             have hlo:=(HKD3.out.lt i hv).1
             rcases List.mem_append.1 hp with hp|hp
             ·rcases List.mem_append.1 hp with hp|hp
              ·have:=HN0.out p hp i hi;omega
              ·exact (HKB.out p hp i hi).2 hv
             ·have h1:=HB2.out p hp i hi;have h2:=HKL.out i hv;omega)
        have HG4:=lh (Gw.trans_up (HG2.out.trans (Gw.keep hke base gt)) (Turn.of_grown hg4) fun i hi=>(HKD3.out.lt i (by simpa using hi)).1);have HB4:=lh (show ∀ p∈NX++NY,∀ b,kblk p.1=some b→w.heap.size≤b∧(Value.slice A4 (ks.length+1) c4).ownBlock≠some b from fun p hp b hb=>by
             have hlt3:b<w3.heap.size:=(((HS2.out.keep hke).na p (by rcases List.mem_append.1 hp with hp|hp<;>simp [hp])).own.lt b hb).2
             rcases List.mem_append.1 hp with hp|hp
             ·have h1:=HKB.out p hp b hb;refine ⟨h1.1,fun e5=>?_⟩
              rcases hd4 with hd|hd
              ·exact h1.2 (hd ▸ e5)
              ·rw [hd] at e5;simp at e5;omega
             ·have h1:=HB2.out p hp b hb;refine ⟨Nat.le_trans HG.out.size h1,fun e5=>?_⟩
              rcases hd4 with hd|hd
              ·have h2:=HKL.out b (hd ▸ e5);omega
              ·rw [hd] at e5;simp at e5;omega)
        have HZ4:=lh (Nat.le_trans (Nat.le_trans HBZ.out (Nat.le_trans HSZ2.out hke.size)) hg4.size);clear hown4 hg4 hd4 hsl hke HKD3 HKE HKD2 HS2 HB2 HKL;go_wp2;go_roundw
        case rel =>
             refine ⟨e,fu',ks++[(id,mm)],vr2,vn2,P2,NX++NY,ns++(Star.growF leaf f' (depth+1) at_ e st (P'.map fun p=>p.2) mm).2,rfl,by omega,he2,by omega,by simp;omega,?_,HO4.out,?_,?_,HB4.out,?_,HG4.out,HZ4.out⟩
             ·show hi≤P2.length;have:=congrArg List.length HP2.out;rw [List.length_map] at this;rw [this];exact HGE.out
             ·show StarAt _ _ _ _ _ _ _ _ _ _;have h:=HS4.out
              rwa [List.append_assoc] at h
             ·show List.map _ _=_;rw [List.map_append,HN.out,HN2.out,HMM.out];rfl
             ·show _=_;have h:=HST.out;rw [HMM.out] at h;have h2:=HP2.out;rw [HMM.out] at h2;rw [h2];exact h
        case measure=>simp [intOf];omega
   ·have hah:at_=hi:=by omega
    have hle:=HL.out;rw [Star.loop_end fu at_ ks _ ns (by omega)] at hle;simp only [Prod.mk.injEq] at hle;obtain ⟨rfl,rfl,rfl⟩:=hle;have hnx1:NX.length=Rn.length+1:=by
     have:=congrArg List.length HN.out
     simpa using this
    have HR2:=lh HR.out.symm;clear HL hah HR
    cases st with
    | true =>
      have hgr:=Star.grow_starred leaf f' depth lo hi n (P.map fun p=>p.2) HNL.out HR2.out;have HGR:=lh hgr;clear hgr;have hrn:((N++NX).map fun p=>p.1).length=(N++NX).length:=List.length_map _;obtain ⟨Am,cm,hvm⟩:=own_form HS.out.nodes;rw [hrn] at hvm;subst hvm;obtain ⟨gn,rfl,-⟩:=vown_some HS.out.nodes (by rw [hrn,List.length_append];omega);obtain ⟨nn,hnn⟩:∃ nn,nn=(N++NX).length:=⟨_,rfl⟩;have hlen:(N++NX).length=n+NX.length:=by rw [List.length_append,hNn]
      obtain ⟨t0,t1,t2,_⟩:=own_at HS.out.nodes nc_len hrn n (by rw [hrn];omega);obtain ⟨zz,hzz⟩:∃ zz:Nc,zz=((N++NX).map fun p=>p.1)[n]'(by rw [hrn];omega):=⟨_,rfl⟩;rw [← hzz] at t0;clear hzz;have m3:=t0 3 _ rfl;have r3:=(t1 3 (by decide)).2;have y4:=HS.out.row.cell 4 _ rfl;have hgty:=HS.out.row.lt;obtain ⟨NXf,hSf,hNf,hBf,hGf⟩:=HS.out.finish rfl hNn HN.out HK.out hbw0 (fun p hp b hb=>(HKB.out p hp b hb).1);have hnn1:n<nn:=by omega
      rw [← hnn] at y4;have HSF:=lh hSf;have HNF:=lh hNf;have HBF:=lh hBf;have HGF:=lh (HG.out.trans hGf);clear hrn t0 t1 hlen hSf hNf hBf hGf hnn;go_wp2;go_ret;refine ⟨rfl,_,_,P',NXf,HSF.out,?_,?_,fun a b h=>HBF.out (a,b) h,HGF.out⟩
      ·rw [HGR.out]
      ·rw [HGR.out];exact HNF.out
    | false =>
      have hpl:=HP.out;have hlh2:lo<hi:=by have:=HNL.out;omega
      have hrl:(P'.map fun p=>p.1).length=P'.length:=List.length_map _;obtain ⟨Ar,cr,hvr⟩:=own_form HS.out.recs;rw [hrl] at hvr;subst hvr;obtain ⟨gr,rfl,-⟩:=vown_some HS.out.recs (by rw [hrl];omega);have hpb:P'.length≤1000000:=by have:=HRR.out.1;rwa [List.length_map] at this
      obtain ⟨A1,c1,hv1,hsl⟩:=HS.out.recs.sl rc_len (by rw [hrl];omega);injection hv1 with e1 e2 e3;subst e1;subst e3;obtain ⟨np,hnp⟩:∃ np,np=P'.length:=⟨_,rfl⟩;have hcap:np≤cr:=by have:=hsl.cap;rw [hrl] at this;omega
      have x3:=HS.out.row.cell 3 _ rfl;have hgtw:=HS.out.row.lt;rw [← hnp] at x3;have hnp1:hi≤np:=by omega
      have hlc:lo<cr:=by omega
      have hlc2:¬ cr-lo=0:=by omega
      have hlc3:¬ cr=lo:=by omega
      have HSL:=lh hsl;have HNP:=lh hnp;have HPB:=lh hpb;clear hpl hrl e2 hsl hnp hpb;obtain ⟨C0,hC0⟩:∃ C0,C0=(P'.drop lo).take (hi-lo):=⟨_,rfl⟩;have hCl:C0.length=hi-lo:=by rw [hC0];simp;have:=HP.out;omega
      have hCm:∀ p∈C0,p∈P':=fun p hp=>List.mem_of_mem_drop (List.mem_of_mem_take (hC0 ▸ hp));have hsub:Sl wr 10 Rc.cells (some ⟨gr,lo*10,none⟩) (cr-lo) (C0.map fun p=>p.1):=by
       have h:=sl_sub HSL.out (lo:=lo) (hi:=hi) hlh (by rw [List.length_map];exact HP.out);rw [hC0,List.map_take,List.map_drop];exact h
      obtain ⟨nl,hnl0⟩:∃ nl,nl=hi-lo:=⟨_,rfl⟩;rw [← hnl0] at hCl;have hcl:=rclone_any (some ⟨gr,lo*10,none⟩) (cr-lo) (C0.map fun p=>p.1) wr hsub (by rw [List.length_map];omega) (fun e=>by have:=congrArg List.length e;rw [List.length_map,hCl] at this;simp at this;omega);rw [List.length_map,hCl] at hcl;have HCL:=lh hcl;have HC0:=lh (show RecsAt wr base C0 from fun p hp=>HS.out.ra p (hCm p hp));have HCML:=lh (fun p hp=>HS.out.ml p (hCm p hp));have HCE:=lh (show (C0.map fun p=>p.2)=Star.cutR (P'.map fun p=>p.2) lo hi by rw [hC0,List.map_take,List.map_drop];rfl);have HCLN:=lh hCl;have hnl6:nl≤1000000:=by omega
      have hnl1:0<nl:=by omega
      clear hC0 hCl hCm hsub hcl;go_wp2_with (go_at_call 142;refine hold ?_);refine unhold ?_;rw [← hnl0];refine HCL.out.mono ?_;rintro e w2 ⟨Al,cl,rfl,hown2,_,hk2⟩;obtain ⟨gl,rfl,-⟩:=vown_some hown2 (by rw [List.length_map,HCLN.out];exact hnl1);have hglb:=(hown2.lt gl rfl).1;have hgl2:=(hown2.lt gl rfl).2;have HO2:=lh (hown2.base_mono HBZ.out);have HK2:=lh hk2;have HNL0:=lh hnl0;clear hown2 hk2 HCL hnl0 x3 hlc hlc2 hlc3 hnp1 hcap hgtw;go_wp2;clear hlt;go_loopw [113] (fun vi wq=>∃ i:Nat,i≤nl∧vi=.int .i64 i∧Hid (OwnRc wq base (.slice (some ⟨gl,0,none⟩) nl cl) (mixL (fun p:Rc × Star.SR=>p.1.setId depth) (fun p=>p.1) C0 i))∧Hid (Turn w2 wq [gl])) (fun vi _=>nl-(intOf vi).toNat)
      case atStart=>exact ⟨0,Nat.zero_le _,rfl,by rw [mix_zero];exact HO2.out,Turn.refl _ _⟩
      case round =>
       clear HO2;obtain ⟨i,hi1,rfl,HOM,HTM⟩:=hrel
       by_cases hil:i<nl
       ·have hic:i<C0.length:=by rw [HCLN.out];exact hil
        have hml:=mix_len (fun p:Rc × Star.SR=>p.1.setId depth) (fun p=>p.1) C0 i;obtain ⟨t0,t1,hglw,_⟩:=own_at HOM.out rc_len (by rw [hml];exact HCLN.out) i (by rw [hml];exact hic);have hmg:=mix_get (fun p:Rc × Star.SR=>p.1.setId depth) (fun p=>p.1) C0 i hic;rw [hmg] at t0;obtain ⟨zv,c0⟩:∃ zv,wr.cell? ⟨gl,i*10+depth,none⟩=some (.int .i64 zv):=⟨_,t0 depth _ (ids_cell _ depth hd8)⟩;have f0:=(t1 depth (by omega)).2;have hset:=own_setj HOM.out rc_len (by rw [hml];exact HCLN.out) i depth (by rw [hml];exact hic) (by omega) (.int .i64 (-1)) (C0[i].1.setId depth) (by rw [hmg];exact setId_cells _ depth hd8);rw [mix_succ (fun p:Rc × Star.SR=>p.1.setId depth) (fun p=>p.1) C0 i hic] at hset;have HSET:=lh hset;have HTS:=lh (Turn.set wr ⟨gl,i*10+depth,none⟩ (.int .i64 (-1)));clear hset hmg hml hic t0 t1;go_wp2;go_roundw
        case rel=>exact ⟨i+1,by omega,by go_num,HSET.out,HTM.out.trans HTS.out⟩
        case measure=>simp [intOf];omega
       ·have hie:i=nl:=by omega
        subst hie;have hmix:=mix_all (fun p:Rc × Star.SR=>p.1.setId depth) (fun p=>p.1) C0;rw [HCLN.out] at hmix;rw [hmix] at HOM;have hC1:(C0.map fun p=>(p.1.setId depth,Star.starR depth p.2)).map (fun p=>p.1)=C0.map fun p:Rc × Star.SR=>p.1.setId depth:=by rw [List.map_map];rfl
        have hC1l:(C0.map fun p=>(p.1.setId depth,Star.starR depth p.2)).length=i:=by rw [List.length_map];exact HCLN.out
        have hkr:Keep w2 wr→True:=fun _=>trivial;clear hkr;have hR1:RecsAt wr base (C0.map fun p=>(p.1.setId depth,Star.starR depth p.2)):=fun p hp=>by
            obtain ⟨p0,hp0,rfl⟩:=List.mem_map.1 hp;refine RecAt.star ?_ depth hd8;have h1:=(HC0.out p0 hp0).keep HK2.out;exact h1.turn HTM.out fun j hj e=>by
             simp only [List.mem_singleton] at hj;subst hj;have h2:=((HC0.out p0 hp0).own.lt j e).2;omega
        have htog:=tog_any gl cl base m (C0.map fun p=>(p.1.setId depth,Star.starR depth p.2)) wr (by rw [hC1,hC1l];exact HOM.out) hR1 (by rw [hC1l];exact hnl6) hm (fun p hp=>by
            obtain ⟨p0,hp0,rfl⟩:=List.mem_map.1 hp;exact HCML.out p0 hp0)
        rw [hC1l] at htog;have HTG:=lh htog;have HC1S:=lh (show (C0.map fun p=>(p.1.setId depth,Star.starR depth p.2)).map (fun p=>p.2)=(Star.cutR (P'.map fun p=>p.2) lo hi).map (Star.starR depth) by rw [List.map_map,← HCE.out,List.map_map];rfl);clear hmix hC1 hC1l hR1 htog HOM;go_wp2_with (go_at_call 84;refine hold ?_);refine unhold ?_;refine HTG.out.mono ?_;rintro e w4 ⟨v,Q,rfl,hQo,hQr,_,hQs,hQt⟩;obtain ⟨Av,cv,hvv⟩:=own_form hQo;rw [List.length_map] at hvv;subst hvv;have HKW:=lh (Turn.after (Turn.after HK2.out HTM.out (fun j hj=>by simp at hj;omega)) hQt (fun j hj=>by simp at hj;omega));have HZW:=lh (Nat.le_trans HBZ.out HKW.out.size);have hqs2:Q.map (fun p=>p.2)=Star.togF ((Star.cutR (P'.map fun p=>p.2) lo hi).map (Star.starR depth)):=by rw [← HC1S.out];exact hQs
        have HQS:=lh hqs2;have hql:Q.length≤i:=by
            have h1:=congrArg List.length hqs2;rw [List.length_map] at h1;have h2:=Star.togF_len ((Star.cutR (P'.map fun p=>p.2) lo hi).map (Star.starR depth));rw [← HCE.out,List.length_map,List.length_map,HCLN.out] at h2;rw [← HCE.out] at h1;omega
        have HQM:=lh (show ∀ q∈Q,q.2.sums.length=m from fun q hq=>by
            have h1:q.2∈Star.togF ((Star.cutR (P'.map fun p=>p.2) lo hi).map (Star.starR depth)):=by rw [← hqs2];exact List.mem_map_of_mem hq
            refine (Star.togF_wide (k:=8) (m:=m) (Star.starR_wide fun x hx=>?_) q.2 h1).2;rw [← HCE.out] at hx;obtain ⟨p0,hp0,rfl⟩:=List.mem_map.1 hx;exact ⟨(HC0.out p0 hp0).len8,HCML.out p0 hp0⟩)
        obtain ⟨A9,c9,hv9,hsl9⟩:=hQo.sl rc_len (by rw [List.length_map];omega);injection hv9 with e1 e2 e3;subst e1;subst e3;rw [List.length_map] at e2;have HQO:=lh hQo;have HSL9:=lh hsl9;have HQR:=lh (hQr.base (show base≤wr.heap.size from Nat.le_trans HBZ.out (Nat.le_trans HK2.out.size HTM.out.size)));have HS4:=lh (HS.out.keep HKW.out);have HK4:=lh (HK.out.keep HKW.out);have HG4:=lh (HG.out.trans (Gw.keep HKW.out base gt));have HKB4:=lh (show ∀ p∈NX,∀ b,kblk p.1=some b→b<w4.heap.size from fun p hp b hb=>((HS4.out.na p (List.mem_append_right _ hp)).own.lt b hb).2);have x3:=HS4.out.row.cell 3 _ rfl;have hgt4:=HS4.out.row.lt;have q3:=HS4.out.row.soft 3;rw [← HNP.out] at x3;clear hQo hQr hQs hQt hqs2 hsl9 e2 HTG HTM HC0 HK2 hgl2 hglb HSL HG HBZ;go_upto_region 23 with fail;go_wp2_with (at_builtin;refine hold ?_);refine unhold ?_;have HRO4:=lh (show OwnRc w4 base (.slice (some ⟨gr,0,none⟩) np cr) (P'.map fun p=>p.1) from HNP.out ▸ HS4.out.recs);have hnp6:np≤1000000:=by rw [HNP.out];exact HPB.out
        refine wpList_app elt_rc rc_len rc_one rfl (.tmp 134) (.tmp 135) rfl (ys:=Q.map fun p=>p.1) HRO4.out rfl (by rw [List.length_map];rfl) HSL9.out (by rw [List.length_map,List.length_map,← HNP.out];omega) HZW.out ?_;intro v5 w5 hown5 hg5 _;obtain ⟨A5,c5,hv5⟩:=own_form hown5;rw [List.length_append,List.length_map,List.length_map,← HNP.out] at hv5;subst hv5;have hg5':w4.grownBy w5 (Value.slice (some ⟨gr,0,none⟩) P'.length cr).ownBlock:=HNP.out ▸ hg5;have hr5:Row w5 gt 153 (trC k m leaf (.slice (some ⟨gr,0,none⟩) P'.length cr) vn'):=(Turn.of_grown hg5').row HS4.out.row fun hm=>own_row_ne HS4.out.recs HS4.out.row (by decide) (by simpa using hm);obtain ⟨hS6,hG6⟩:=HS4.out.app_recs hown5 hg5' HQR.out HQM.out;have HS6:=lh hS6;have HG6:=lh (HG4.out.trans hG6);have HK6:=lh (Gw.own HK4.out hG6 (by decide) (by decide) HS4.out.row (by decide));have HZ6:=lh (show base≤(w5.setCell ⟨gt,3,none⟩ (.slice A5 (np+Q.length) c5)).heap.size by have:=HZW.out;have:=hg5.size;simp;omega);have HSZ6:=lh (show w4.heap.size≤(w5.setCell ⟨gt,3,none⟩ (.slice A5 (np+Q.length) c5)).heap.size by have:=hg5.size;simp;omega);clear x3 q3 hgt4;have x3:=hr5.cell 3 _ rfl;have q3:=hr5.soft 3;have hgt5:=hr5.lt;clear hown5 hg5 hg5' hr5 hS6 hG6 HS4 HRO4 HK4 HSL9 HQO HQR;go_upto_region 24 with fail;generalize w5.setCell ⟨gt,3,none⟩ (.slice A5 (np+Q.length) c5)=w6 at HS6 HG6 HK6 HZ6 HSZ6 ⊢;clear x3 q3 hgt5
        have hPQ:((P'++Q).map fun p=>p.2)=(P'.map fun p=>p.2)++Star.togF ((Star.cutR (P'.map fun p=>p.2) lo hi).map (Star.starR depth)):=by rw [List.map_append,HQS.out]
        have hNX0:(N++NX).length=n+1+Rn.length:=by rw [List.length_append,hNn];omega
        obtain ⟨mm,hmm⟩:∃ mm,mm=(N++NX).length:=⟨_,rfl⟩;have hNX:mm=n+1+Rn.length:=hmm.trans hNX0;have hgp:=Star.grow_plain leaf f' depth lo hi n (P.map fun p=>p.2) HNL.out HR2.out (l:=Star.togF ((Star.cutR (P'.map fun p=>p.2) lo hi).map (Star.starR depth))) rfl (b:=np) (e:=np+Q.length) (m:=mm) (by rw [List.length_map];exact HNP.out) (by rw [← HQS.out,List.length_map,List.length_map,HNP.out]) hNX;rw [← hPQ] at hgp;have hb1:=HB1.out;have hb2:=HB2.out;rw [hgp] at hb1 hb2;simp only [List.length_cons,List.length_append] at hb1 hb2;have hcall:=HIH.out f' rfl gt (depth+1) np (np+Q.length) true _ vn' (P'++Q) (N++NX) w6 (by have:=HD.out;omega) HS6.out (by omega) (by rw [List.length_append,HNP.out];exact Nat.le_refl _) HZ6.out (by rw [← hmm];exact hb1) (by rw [← hmm];omega);rw [← hmm] at hcall;have HC:=lh hcall;have HMM:=lh hmm;have HGP:=lh hgp;clear hcall hgp hPQ hNX hb1 hb2 hNX0 hmm;go_wp2_with (go_at_call 85;refine hold ?_);refine unhold ?_;rw [show ((depth:Int)+1)=((depth+1:Nat):Int) by omega,show ((np:Int)+(Q.length:Int))=((np+Q.length:Nat):Int) by omega];refine HC.out.mono ?_;rintro e' w7' ⟨rfl,vr2,vn2,P2,NY,hS2,hP2,hN2,hB2,hG2⟩;have hkd2:=Gw.own HK6.out hG2 (by decide) (by decide) HS6.out.row (by decide);have HS2:=lh hS2;have HP2:=lh hP2;have HN2:=lh hN2;have HKD2:=lh hkd2;have HG2:=lh (HG6.out.trans hG2);have HSZ2:=lh hG2.size;have HKL:=lh (show ∀ b,(Value.slice Ak Rk.length ck).ownBlock=some b→b<w6.heap.size from fun b hb=>(HK6.out.lt b hb).2);have HB2':=lh hB2
        have HW6:=lh (show w.heap.size≤w6.heap.size from HG6.out.size);clear hS2 hP2 hN2 hkd2 hG2 hB2 HC HS6 HK6 HG6 HKB4;go_wp2_with (at_builtin;refine hold ?_);refine unhold ?_;have hsl:Sl (w7'.alloc (.cells #[.int .i64 (-1),.int .i64 mm] 119)) 2 kdC (some ⟨w7'.heap.size,0,none⟩) 1 [((-1:Int),mm)]:=sl_one _ (by omega) (by omega) fun j u hu=>(row_alloc w7' 119 [.int .i64 (-1),.int .i64 mm]).cell j u hu;have hke:Keep w7' (w7'.alloc (.cells #[.int .i64 (-1),.int .i64 mm] 119)):=Keep.alloc (Keep.refl _) _;generalize w7'.alloc (.cells #[.int .i64 (-1),.int .i64 mm] 119)=w3 at hsl hke ⊢;have HKD3:=lh (HKD2.out.keep hke);refine wpList_app elt_kd kd_len kd_one rfl (.tmp 139) (.tmp 150) rfl (ys:=[((-1:Int),mm)]) HKD3.out rfl rfl hsl (by simp;omega) (Nat.le_trans HG2.out.size hke.size) ?_;intro v4 w4 hown4 hg4 hd4;obtain ⟨A4,c4,hv4⟩:=own_form hown4;rw [List.length_append,List.length_singleton] at hv4;subst hv4;have hS4:StarAt w4 gt base k m leaf vr2 vn2 P2 (N++NX++NY):=(HS2.out.keep hke).grown_kd HKD3.out hg4 fun p hp i hi hv=>by
            have hlo:=(HKD3.out.lt i hv).1
            rcases List.mem_append.1 hp with hp|hp
            ·rcases List.mem_append.1 hp with hp|hp
             ·have:=HN0.out p hp i hi;omega
             ·exact (HKB.out p hp i hi).2 hv
            ·have h1:=HB2'.out p hp i hi;have h2:=HKL.out i hv;omega
        rw [List.append_assoc] at hS4;have HO4:=lh hown4;have HS4:=lh hS4;have HG4:=lh (Gw.trans_up (HG2.out.trans (Gw.keep hke base gt)) (Turn.of_grown hg4) fun i hi=>(HKD3.out.lt i (by simpa using hi)).1);have HB4:=lh (show ∀ p∈NX++NY,∀ b,kblk p.1=some b→w.heap.size≤b∧True from fun p hp b hb=>by
            rcases List.mem_append.1 hp with hp|hp
            ·exact ⟨(HKB.out p hp b hb).1,trivial⟩
            ·exact ⟨Nat.le_trans HW6.out (HB2'.out p hp b hb),trivial⟩)
        have HNN:=lh (show ((NX++NY).map fun p=>p.2)=⟨depth,lo,hi,[]⟩ :: (Rn++(Star.growF leaf f' (depth+1) np (np+Q.length) true ((P'++Q).map fun p=>p.2) mm).2) by rw [List.map_append,HN.out,HN2.out];rfl);have hnx2:0<(NX++NY).length:=by rw [List.length_append];omega
        clear hown4 hg4 hd4 hsl hke HKD3 HKD2 HS2 HB2' HKL hS4 HS HK HN HKB;have hrn:((N++(NX++NY)).map fun p=>p.1).length=(N++(NX++NY)).length:=List.length_map _;obtain ⟨Am,cm,hvm⟩:=own_form HS4.out.nodes;rw [hrn] at hvm;subst hvm;obtain ⟨gn,rfl,-⟩:=vown_some HS4.out.nodes (by rw [hrn,List.length_append];omega);obtain ⟨nn,hnn⟩:∃ nn,nn=(N++(NX++NY)).length:=⟨_,rfl⟩;have hlen:(N++(NX++NY)).length=n+(NX++NY).length:=by rw [List.length_append,hNn]
        obtain ⟨t0,t1,t2,_⟩:=own_at HS4.out.nodes nc_len hrn n (by rw [hrn];omega);obtain ⟨zz,hzz⟩:∃ zz:Nc,zz=((N++(NX++NY)).map fun p=>p.1)[n]'(by rw [hrn];omega):=⟨_,rfl⟩;rw [← hzz] at t0;clear hzz;have m3:=t0 3 _ rfl;have r3:=(t1 3 (by decide)).2;have y4:=HS4.out.row.cell 4 _ rfl;have hgty:=HS4.out.row.lt;obtain ⟨NXf,hSf,hNf,hBf,hGf⟩:=HS4.out.finish rfl hNn HNN.out HO4.out hbw0 (fun p hp b hb=>(HB4.out p hp b hb).1);have hnn1:n<nn:=by omega
        rw [← hnn] at y4;have HSF:=lh hSf;have HNF:=lh hNf;have HBF:=lh hBf;have HGF:=lh (HG4.out.trans hGf);clear hrn t0 t1 hlen hSf hNf hBf hGf hnn;go_wp2;go_ret;refine ⟨rfl,_,_,P2,NXf,HSF.out,?_,?_,fun a b h=>HBF.out (a,b) h,HGF.out⟩
        ·rw [HGP.out];exact HP2.out
        ·rw [HGP.out];exact HNF.out
theorem grow_any(leaf k m base:Nat)(hk8:k≤8)(hlf:1≤leaf)(hm:m≤1000):∀ f,GrowOk leaf k m base f
 | 0=>grow_node leaf k m base 0 hk8 hlf hm fun f' h=>by omega
 | f+1=>grow_node leaf k m base (f+1) hk8 hlf hm fun f' h=>by
   have e:f=f':=by omega
   subst e;exact grow_any leaf k m base hk8 hlf hm f
end Go.Proofs.YtpkocnpamcchcaaGreatDoor
