/- Parts of the proof. -/
import Derived.Test.YtpkocnpamcchcaaGreatDoorK11
set_option maxRecDepth 100000
set_option maxHeartbeats 4000000
set_option linter.unusedSimpArgs false
set_option linter.unusedVariables false
set_option linter.unnecessarySimpa false
namespace Go.Proofs.YtpkocnpamcchcaaGreatDoor
open Go.RowKit Go.Zone Go.Shelf
attribute [local go_sem] zone stepZ fill lookFs goes goesUpon dropFs cell_gro frozen_gro size_gro lt_add drew_gro tape_gro keep_refl
attribute [local go_sem] lt_add2 lt_add3 lt_add4 lt_add5 lt_add6 lt_add7 lt_add8 lt_add9 lt_add10 lt_add11 lt_add12
attribute [local go_sem high] run_eq_val run_ne_val run_eqG_val
theorem rgreat18_any(A B:Option Addr)(n m:Nat)(cs:List Col)(c:Cfg)(rows:List Rw)(mx:Int)(w:World)(h:Sl w 2 Col.cells A n cs)(hz:∀ x∈cs,x.name.size≤140737488355328)(hc:CfgAt w c)(hr:Sl w 1 Rw.cells B m rows)(hra:RowsAt w rows) :
 Calls Tryz.prog 27 #[.slice A cs.length n,c.v,.slice B rows.length m,.int .i64 mx] w fun e w'=>(∃ g,e=.returned (.bool g)∧(g=false→(rows.length:Int)≤mx∧∀ r∈rows,r.vs.length≤300))∧Keep w w':=by
 have HG:=lh (fun W (hW:Keep w W)=>rgreat_any A n cs c W (h.keep hW) hz (hc.keep hW));have HR:=lh hr;have HRA:=lh hra;have hl:=sl_len hr;generalize hn:rows.length=N at hl ⊢;have HN:=lh hn;obtain ⟨s0,iA,ic,iv,rA,rc,rv,sA,sc,sp,lf⟩:=c;simp only [Cfg.v] at HG ⊢;clear h hz hc hr hra hn;go_enter Tryz.func27,Tryz.ntmps27;go_upto_region 1 with fail;have hB:BoxA w (w.alloc (.cells #[.int .i64 s0,.slice iA iv.length ic,.slice rA rv.length rc,.slice sA sp.length sc,.int .i64 lf] 26)) [.int .i64 s0,.slice iA iv.length ic,.slice rA rv.length rc,.slice sA sp.length sc,.int .i64 lf]:=BoxA.start (t:=26) (Keep.refl _);generalize hwb:World.alloc w _=wb at hB ⊢;have hbs:=hB.lt;have x0:=hB.at_ 0 _ rfl;have x1:=hB.at_ 1 _ rfl;have x2:=hB.at_ 2 _ rfl;have x3:=hB.at_ 3 _ rfl;have x4:=hB.at_ 4 _ rfl;have HKB:=lh hB.keep;clear hwb hB;generalize w.heap.size=g0 at hbs x0 x1 x2 x3 x4 ⊢;go_wp2_with (go_at_call 57;refine hold ?_);refine unhold ?_;refine (HG.out _ HKB.out).mono ?_;rintro e w1 ⟨⟨b,rfl⟩,hk1⟩;have HK1:=lh (HKB.out.trans hk1);clear x0 x1 x2 x3 x4 hk1 HG hbs
 cases b
 ·by_cases hgt:mx<(N:Int)
  ·have hd:decide (mx<(N:Int))=true:=decide_eq_true hgt;go_wp2;go_ret;exact ⟨⟨true,rfl,fun h=>by cases h⟩,HK1.out⟩
  ·have hd:decide (mx<(N:Int))=false:=decide_eq_false hgt;go_wp2;go_loopw [10,9] (fun vi vn wr=>∃ (k:Nat) (x:Int),vi=.int .i64 k∧k≤N∧vn=.int .i64 x∧Hid (∀ j,(h:j<rows.length)→j<k→rows[j].vs.length≤300)∧Hid (Keep w wr)) (fun vi _ _=>N-(intOf vi).toNat)
   case atStart=>exact ⟨0,_,rfl,Nat.zero_le _,rfl,(fun j _ h=>absurd h (Nat.not_lt_zero _)),HK1.out⟩
   case round =>
    clear HK1;obtain ⟨k,x,rfl,hk,rfl,HS,HK⟩:=hrel
    by_cases hlt:k<N
    ·have hlt2:k<rows.length:=by rw [HN.out];exact hlt
     obtain ⟨b,off,hA,hb,h0⟩:=sl_rw (HR.out.keep HK.out) k hlt2;have HSR:=lh ((HRA.out rows[k] (List.getElem_mem hlt2)).keep HK.out);have HNX:=lh (show rows[k].vs.length≤300→∀ j,(h:j<rows.length)→j<k+1→rows[j].vs.length≤300 from fun h9 j hj hjk=>by
      rcases Nat.lt_or_ge j k with h8|h8
      ·exact HS.out j hj h8
      ·have:j=k:=by omega
       subst this;exact h9)
     subst hA;generalize rows[k]=r at h0 HSR HNX;obtain ⟨rA2,rc2,vs⟩:=r;simp only at h0 HSR HNX;have hvl:=sl_len HSR.out
     by_cases h300:(300:Int)<(vs.length:Int)
     ·have hd2:decide ((300:Int)<(vs.length:Int))=true:=decide_eq_true h300;go_wp2;go_ret;exact ⟨⟨true,rfl,fun h=>by cases h⟩,HK.out⟩
     ·have hd2:decide ((300:Int)<(vs.length:Int))=false:=decide_eq_false h300;have HN2:=lh (HNX.out (by omega));clear HNX HS;go_wp2_with (go_at_call 58;refine hold ?_);refine unhold ?_;refine (great_any rA2 rc2 vs 300 _ HSR.out).mono ?_;rintro e w2 ⟨rfl,rfl⟩
      cases hgv:greatV vs 300
      ·clear hgv;go_wp2;go_loopw [11,9] (fun vj vn wq=>∃ (j:Nat) (x:Int),vj=.int .i64 j∧j≤vs.length∧vn=.int .i64 x∧wq=wr) (fun vj _ _=>vs.length-(intOf vj).toNat)
       case atStart=>exact ⟨0,_,rfl,Nat.zero_le _,rfl,rfl⟩
       case round =>
           obtain ⟨j,y,rfl,hj,rfl,rfl⟩:=hrel
           by_cases hjl:j<vs.length
           ·obtain ⟨b2,off2,hA2,hb2,c0,c1,c2⟩:=sl_val HSR.out j hjl;subst hA2;go_wp2;go_roundw
            case rel=>exact ⟨j+1,_,by go_num,by omega,rfl,trivial⟩
            case measure=>simp [intOf];omega
           ·have:j=vs.length:=by omega
            subst this;go_wp2;go_roundw
            case rel=>exact ⟨k+1,_,by go_num,by omega,rfl,HN2.out,HK.out⟩
            case measure=>simp [intOf];omega
      ·clear hgv;go_wp2;go_ret;exact ⟨⟨true,rfl,fun h=>by cases h⟩,HK.out⟩
    ·have hkn:k=N:=by omega
     subst hkn;go_wp2;go_ret;exact ⟨⟨_,rfl,fun _=>⟨by omega,fun r hr=>by
      obtain ⟨i,hi,rfl⟩:=List.getElem_of_mem hr;exact HS.out i hi (by rw [← HN.out];exact hi)⟩⟩,HK.out⟩
 ·go_wp2;go_ret;exact ⟨⟨true,rfl,fun h=>by cases h⟩,HK1.out⟩
theorem great22_any(A B:Option Addr)(n m:Nat)(cs:List Col)(c:Cfg)(rows:List Rw)(w:World)(h:Sl w 2 Col.cells A n cs)(hz:∀ x∈cs,x.name.size≤140737488355328)(hc:CfgAt w c)(hr:Sl w 1 Rw.cells B m rows)(hra:RowsAt w rows) :
 Calls Tryz.prog 6 #[.slice A cs.length n,c.v,.slice B rows.length m] w fun e w'=>(∃ g,e=.returned (.bool g)∧(g=false→(rows.length:Int)≤60∧∀ r∈rows,r.vs.length≤300))∧Keep w w':=by
 have HG:=lh (fun W (hW:Keep w W)=>rgreat18_any A B n m cs c rows 60 W (h.keep hW) hz (hc.keep hW) (hr.keep hW) (hra.keep hW));obtain ⟨s0,iA,ic,iv,rA,rc,rv,sA,sc,sp,lf⟩:=c;simp only [Cfg.v] at HG ⊢;clear h hz hc hr hra;go_enter Tryz.func6,Tryz.ntmps6;go_upto_region 1 with fail;have hB:BoxA w (w.alloc (.cells #[.int .i64 s0,.slice iA iv.length ic,.slice rA rv.length rc,.slice sA sp.length sc,.int .i64 lf] 26)) [.int .i64 s0,.slice iA iv.length ic,.slice rA rv.length rc,.slice sA sp.length sc,.int .i64 lf]:=BoxA.start (t:=26) (Keep.refl _);generalize hwb:World.alloc w _=wb at hB ⊢;have hbs:=hB.lt;have x0:=hB.at_ 0 _ rfl;have x1:=hB.at_ 1 _ rfl;have x2:=hB.at_ 2 _ rfl;have x3:=hB.at_ 3 _ rfl;have x4:=hB.at_ 4 _ rfl;have HKB:=lh hB.keep;clear hwb hB;generalize w.heap.size=g0 at hbs x0 x1 x2 x3 x4 ⊢;go_wp2_with (go_at_call 27;refine hold ?_);refine unhold ?_;refine (HG.out _ HKB.out).mono ?_;rintro e w1 ⟨⟨b,rfl,hb⟩,hk1⟩;have HK1:=lh (HKB.out.trans hk1);have HB:=lh hb;clear x0 x1 x2 x3 x4 hk1 HG hbs hb;go_wp2;go_ret;exact ⟨⟨b,rfl,HB.out⟩,HK1.out⟩
theorem rsame10_any(A B:Option Addr)(c d:Nat)(xs ys:List Val)(w:World)(h:Sl w 3 Val.cells A c xs)(k:Sl w 3 Val.cells B d ys) :
 Calls Tryz.prog 42 #[.slice A xs.length c,.slice B ys.length d] w fun e w'=>(∃ b,e=.returned (.bool b)∧(b=true↔xs=ys))∧Keep w w':=by
 have HA:=lh h;have HB:=lh k;have hlen:=h.len;clear h k;go_enter Tryz.func42,Tryz.ntmps42
 by_cases hll:xs.length=ys.length
 ·have HLL:=lh hll;have hd:((xs.length:Int) != (ys.length:Int))=false:=by simp [hll]
  clear hll;go_wp2;clear hd;go_loopw [5] (fun vi wr=>∃ k:Nat,k≤xs.length∧vi=.int .i64 k∧Hid (∀ j (h1:j<xs.length) (h2:j<ys.length),j<k→xs[j]=ys[j])∧Hid (Keep w wr)) (fun vi _=>xs.length-(intOf vi).toNat)
  case atStart=>exact ⟨0,Nat.zero_le _,rfl,(fun j _ _ h=>absurd h (Nat.not_lt_zero _)),Keep.refl _⟩
  case round =>
   obtain ⟨k,hk,rfl,HE,HK⟩:=hrel
   by_cases hlt:k<xs.length
   ·have hlt2:k<ys.length:=by rw [← HLL.out];exact hlt
    obtain ⟨b1,o1,hA1,hb1,c0,c1,c2⟩:=sl_val (HA.out.keep HK.out) k hlt;obtain ⟨b2,o2,hA2,hb2,d0,d1,d2⟩:=sl_val (HB.out.keep HK.out) k hlt2;have HXY:=lh (eqV_iff xs[k] ys[k]);have HNX:=lh (show xs[k]=ys[k]→∀ j (h1:j<xs.length) (h2:j<ys.length),j<k+1→xs[j]=ys[j] from fun he j h1 h2 hj=>by
     rcases Nat.lt_or_ge j k with h|h
     ·exact HE.out j h1 h2 h
     ·have:j=k:=by omega
      subst this;exact he)
    have HNE:=lh (show xs=ys→xs[k]=ys[k] from fun he=>by subst he;rfl);subst hA1;subst hA2;generalize xs[k]=x at c0 c1 c2 HXY HNX HNE;generalize ys[k]=y at d0 d1 d2 HXY HNX HNE;obtain ⟨xk,xn,xs0⟩:=x;obtain ⟨yk,yn,ys0⟩:=y;simp only [eqV] at c0 c1 c2 d0 d1 d2 HXY;have hi2:(k:Int)<(xs.length:Int):=by omega
    have hi3:(k:Int)<(ys.length:Int):=by omega
    cases hq:eqC xk xn yk yn xs0 ys0
    ·have HQ:=lh hq;go_wp2;go_quiet (fail);go_wp2;go_ret;exact ⟨⟨false,rfl,⟨fun h=>absurd h (by decide),fun h=>by
      have:=HXY.out.2 (HNE.out h);rw [HQ.out] at this
      cases this⟩⟩,HK.out.trans (by repeat first|exact kp0|apply kp1|apply kp2|apply kp3|apply kp4)⟩
    ·have HQ:=lh (HXY.out.1 hq);go_wp2;go_quiet (fail);go_wp2;go_roundw
     case rel=>exact ⟨k+1,by omega,by go_num,HNX.out HQ.out,HK.out.trans (by repeat first|exact kp0|apply kp1|apply kp2|apply kp3|apply kp4)⟩
     case measure=>simp [intOf];omega
   ·have hkl:k=xs.length:=by omega
    subst hkl;go_wp2;go_ret;exact ⟨⟨true,rfl,⟨fun _=>List.ext_getElem HLL.out fun i h1 h2=>HE.out i h1 h2 h1,fun _=>rfl⟩⟩,HK.out⟩
 ·have hd:((xs.length:Int) != (ys.length:Int))=true:=by simp;omega
  go_wp2;go_ret;exact ⟨⟨false,rfl,⟨fun h=>absurd h (by decide),fun h=>by subst h;exact absurd rfl hll⟩⟩,Keep.refl _⟩
theorem rsame18_any(A B:Option Addr)(c d:Nat)(xs ys:List Rw)(w:World)(h:Sl w 1 Rw.cells A c xs)(ha:RowsAt w xs)(k:Sl w 1 Rw.cells B d ys)(ka:RowsAt w ys) :
 Calls Tryz.prog 11 #[.slice A xs.length c,.slice B ys.length d] w fun e w'=>(∃ b,e=.returned (.bool b)∧(b=true↔xs.map (·.vs)=ys.map (·.vs)))∧Keep w w':=by
 have HA:=lh h;have HB:=lh k;have HAA:=lh ha;have HBA:=lh ka;have hlen:=h.len;clear h k ha ka;go_enter Tryz.func11,Tryz.ntmps11
 by_cases hll:xs.length=ys.length
 ·have HLL:=lh hll;have hd:((xs.length:Int) != (ys.length:Int))=false:=by simp [hll]
  clear hll;go_wp2;clear hd;go_loopw [5] (fun vi wr=>∃ k:Nat,k≤xs.length∧vi=.int .i64 k∧Hid (∀ j (h1:j<xs.length) (h2:j<ys.length),j<k→xs[j].vs=ys[j].vs)∧Hid (Keep w wr)) (fun vi _=>xs.length-(intOf vi).toNat)
  case atStart=>exact ⟨0,Nat.zero_le _,rfl,(fun j _ _ h=>absurd h (Nat.not_lt_zero _)),Keep.refl _⟩
  case round =>
   obtain ⟨k,hk,rfl,HE,HK⟩:=hrel
   by_cases hlt:k<xs.length
   ·have hlt2:k<ys.length:=by rw [← HLL.out];exact hlt
    obtain ⟨b1,o1,hA1,hb1,c0⟩:=sl_rw (HA.out.keep HK.out) k hlt;obtain ⟨b2,o2,hA2,hb2,d0⟩:=sl_rw (HB.out.keep HK.out) k hlt2;have HNX:=lh (show xs[k].vs=ys[k].vs→∀ j (h1:j<xs.length) (h2:j<ys.length),j<k+1→xs[j].vs=ys[j].vs from fun he j h1 h2 hj=>by
     rcases Nat.lt_or_ge j k with h|h
     ·exact HE.out j h1 h2 h
     ·have:j=k:=by omega
      subst this;exact he)
    have HNE:=lh (show xs.map (·.vs)=ys.map (·.vs)→xs[k].vs=ys[k].vs from fun he=>by
     have:=congrArg (fun l=>l[k]?) he;simp only [List.getElem?_map,List.getElem?_eq_getElem hlt,List.getElem?_eq_getElem hlt2,Option.map_some] at this;exact Option.some.inj this)
    have HSX:=lh (HAA.out xs[k] (List.getElem_mem hlt));have HSY:=lh (HBA.out ys[k] (List.getElem_mem hlt2));subst hA1;subst hA2;generalize xs[k]=x at c0 HNX HNE HSX;generalize ys[k]=y at d0 HNX HNE HSY;obtain ⟨xA,xc,xv⟩:=x;obtain ⟨yA,yc,yv⟩:=y;simp only at c0 d0 HNX HNE HSX HSY;have HSM:=lh (fun W (hW:Keep w W)=>rsame10_any xA yA xc yc xv yv W (HSX.out.keep hW) (HSY.out.keep hW));have hi2:(k:Int)<(xs.length:Int):=by omega
    have hi3:(k:Int)<(ys.length:Int):=by omega
    go_upto_region 6 with fail
    first|refine Zone.wp_region_gro 8 (by kernel_rfl) (by kernel_rfl) ?_|refine Zone.wp_region 8 (by kernel_rfl) (by kernel_rfl) ?_
    simp only [List.take_succ_cons,List.take_zero,List.drop_succ_cons,List.drop_zero]
    repeat
     refine Zone.wpZ_step (fun K hK=>?_);go_simp
     first
     | (refine hK _ _ ?_;clear hK K)
     | (apply Exists.intro
        refine ⟨fun p=>?_,hK _ _ ?_⟩
        (fail)
        clear hK K)
    refine Zone.wpZ_nil ?_;intro p;simp only [Zone.fill];have hkp:Keep w (wr.gro p):=HK.out.trans (by repeat first|exact kp0|apply kp1|apply kp2|apply kp3|apply kp4);generalize wr.gro p=wp at hkp ⊢;go_wp2_with (go_at_call 42;refine hold ?_);refine unhold ?_;refine (HSM.out _ hkp).mono ?_;rintro e w8 ⟨⟨b,rfl,hb⟩,hk8⟩;have HB8:=lh hb;have HK8:=lh (hkp.trans hk8);clear hb hk8 hkp c0 d0 HSM
    cases b
    ·go_wp2;go_ret;exact ⟨⟨false,rfl,⟨fun h=>absurd h (by decide),fun h=>by have:=HB8.out.2 (HNE.out h);cases this⟩⟩,HK8.out⟩
    ·go_wp2;go_roundw
     case rel=>exact ⟨k+1,by omega,by go_num,HNX.out (HB8.out.1 (by simp)),HK8.out⟩
     case measure=>simp [intOf];omega
   ·have hkl:k=xs.length:=by omega
    subst hkl;go_wp2;go_ret;exact ⟨⟨true,rfl,⟨fun _=>List.ext_getElem (by simp [HLL.out]) fun i h1 h2=>by
     simp only [List.getElem_map];exact HE.out i (by simpa using h1) (by simpa using h2) (by simpa using h1),fun _=>rfl⟩⟩,HK.out⟩
 ·have hd:((xs.length:Int) != (ys.length:Int))=true:=by simp;omega
  go_wp2;go_ret;exact ⟨⟨false,rfl,⟨fun h=>absurd h (by decide),fun h=>by have:=congrArg List.length h;simp at this;exact absurd this hll⟩⟩,Keep.refl _⟩
def odd9(b:Bool):Int:=if b then 9 else 0
theorem rmay18_any(A B:Option Addr)(n m:Nat)(cs:List Col)(rows:List Rw)(w:World)(h:Sl w 2 Col.cells A n cs)(hz:∀ x∈cs,x.name.size≤140737488355328)(hr:Sl w 1 Rw.cells B m rows)(hs:RowsAt w rows)(hl16:rows.length≤16777216) :
 Calls Tryz.prog 40 #[.slice A cs.length n,.slice B rows.length m] w fun e w'=>e=.returned (.int .i64 (tErr cs (rows.map (·.vs))))∧Keep w w':=by
 have HM:=lh (r17may_any A n cs w h hz);have hl:=sl_len h
 cases hq:pB (MayP cs)
 ·have HE:=lh (show tErr cs (rows.map (·.vs))=2 by unfold tErr;rw [if_pos hq]);rw [hq] at HM;clear h hr hs hq;go_enter Tryz.func40,Tryz.ntmps40;go_wp2_with (go_at_call 90;refine (HM.out).mono ?_;rintro e w' ⟨rfl,hk⟩;(first|obtain ⟨p,rfl⟩:=Zone.gro_of_gro _ _ hk|obtain ⟨p,rfl⟩:=Zone.gro_of_below _ hk);clear hk);go_ret;exact ⟨ret_int HE.out.symm,(by repeat first|exact kp0|apply kp1|apply kp2|apply kp3|apply kp4)⟩
 ·have HE:=lh (show tErr cs (rows.map (·.vs))=if rows.any (fun r=>badRow cs r.vs) then 2 else if rows.any (fun r=>oddRow cs r.vs) then 9 else 0 by
   unfold tErr;rw [if_neg (by rw [hq];decide),List.any_map,List.any_map,List.length_map,if_neg (show ¬ 16777216<rows.length by omega)];rfl)
  rw [hq] at HM;have HC:=lh h;have HR:=lh hr;have HS:=lh hs;clear h hr hs hq;go_enter Tryz.func40,Tryz.ntmps40;go_wp2_with (go_at_call 90;refine (HM.out).mono ?_;rintro e w' ⟨rfl,hk⟩;(first|obtain ⟨p,rfl⟩:=Zone.gro_of_gro _ _ hk|obtain ⟨p,rfl⟩:=Zone.gro_of_below _ hk);clear hk);go_loopw [5,6] (fun o i wr=>∃ (k:Nat) (ob:Bool) (e9:Int),k≤rows.length∧i=.int .i64 k∧o=.int .i64 e9∧Hid (e9=odd9 ob)∧Hid (ob=(rows.take k).any (fun r=>oddRow cs r.vs))∧Hid ((rows.take k).any (fun r=>badRow cs r.vs)=false)∧Hid (Keep w wr)) (fun _ i _=>rows.length-(intOf i).toNat)
  case atStart=>exact ⟨0,false,_,Nat.zero_le _,rfl,rfl,(by show _=_;rfl),(by show _=_;simp),(by show _=_;simp),(by repeat first|exact kp0|apply kp1|apply kp2|apply kp3|apply kp4)⟩
  case round =>
   obtain ⟨k,ob,e9,hk,rfl,rfl,HE9,HOB,HBD,HK⟩:=hrel
   by_cases hlt:k<rows.length
   ·obtain ⟨b,off,hA,hb,h0⟩:=sl_rw (HR.out.keep HK.out) k hlt;have HSR:=lh (HS.out rows[k] (List.getElem_mem hlt));have HT:=lh (any_take_succ (fun r:Rw=>oddRow cs r.vs) rows k hlt);have HT2:=lh (any_take_succ (fun r:Rw=>badRow cs r.vs) rows k hlt);have HBR:=lh (show badRow cs rows[k].vs=true→rows.any (fun r=>badRow cs r.vs)=true from fun h=>List.any_eq_true.2 ⟨rows[k],List.getElem_mem hlt,h⟩);have HBL:=lh hb;have H0:=lh h0;subst hA;generalize rows[k]=r at h0 H0 HSR HT HT2 HBR;obtain ⟨rA,rc,vs⟩:=r;simp only at h0 H0 HSR HT HT2 HBR
    by_cases hln:vs.length=cs.length
    ·have hd:((vs.length:Int) != (cs.length:Int))=false:=by simp [hln]
     have HLN:=lh hln;clear hln;obtain ⟨wa,hwa⟩:∃ wa,wa=wr:=⟨_,rfl⟩;subst hwa;go_wp2;clear hd h0 hb;go_loopw [5,7] (fun o i wr=>∃ (j:Nat) (o2:Bool) (f9:Int),j≤cs.length∧i=.int .i64 j∧o=.int .i64 f9∧Hid (f9=odd9 o2)∧Hid (o2=(ob||oddTo cs vs j))∧Hid ((vs.take j).any noMay=false)∧Hid (Keep wa wr)) (fun _ i _=>cs.length-(intOf i).toNat)
     case atStart=>exact ⟨0,ob,_,Nat.zero_le _,rfl,rfl,HE9.out,(by show _=_;simp [oddTo]),(by show _=_;simp),Keep.refl _⟩
     case round =>
         obtain ⟨j,o2,f9,hj,rfl,rfl,HF9,HO2,HN2,HK2⟩:=hrel
         by_cases hjt2:j<cs.length
         ·have hjt:j<vs.length:=by rw [HLN.out];exact hjt2
          obtain ⟨b2,off2,hA2,hb2,c0,c1,c2⟩:=sl_val (HSR.out.keep (HK.out.trans HK2.out)) j hjt;obtain ⟨b3,off3,hA3,hb3,d0,d1⟩:=sl_col (HC.out.keep (HK.out.trans HK2.out)) j hjt2;have h0:=(HK2.out.cell (p:=⟨b,off+k,none⟩) HBL.out).trans H0.out;have hb:=Nat.lt_of_lt_of_le HBL.out HK2.out.size;have HT3:=lh (any_take_succ noMay vs j hjt);have HT4:=lh (show noMay vs[j]=true→vs.any noMay=true from fun h=>List.any_eq_true.2 ⟨vs[j],List.getElem_mem hjt,h⟩);have HT5:=lh (show oddTo cs vs (j+1)=(oddTo cs vs j||(vs[j].k != kindT cs[j])) by
           rw [oddTo_succ,getD_lt _ _ _ hjt,getD_lt _ _ _ hjt2])
          subst hA2;subst hA3;generalize vs[j]=x at c0 c1 c2 HT3 HT4 HT5;generalize cs[j]=cl at d0 d1 HT5;obtain ⟨xk,xn,xs⟩:=x;obtain ⟨cn,ck⟩:=cl;simp only at c0 c1 c2 d0 d1 HT5;have HMV:=lh (rmay_any ⟨xk,xn,xs⟩);go_wp2_with (go_at_call 92;refine hold ?_);refine unhold ?_;refine (HMV.out _).mono ?_;rintro e w2 ⟨rfl,hk2⟩;have hc0:=(hk2.cell (p:=⟨b2,off2+j*3,none⟩) hb2).trans c0;have hd1:=(hk2.cell (p:=⟨b3,off3+j*2+1,none⟩) hb3).trans d1;have hh0:=(hk2.cell (p:=⟨b,off+k,none⟩) hb).trans h0;have hb22:=Nat.lt_of_lt_of_le hb2 hk2.size;have hb33:=Nat.lt_of_lt_of_le hb3 hk2.size;have hb00:=Nat.lt_of_lt_of_le hb hk2.size;have HK3:=lh (HK2.out.trans hk2);clear c0 c1 c2 d0 d1 h0 hb hb2 hb3 hk2
          cases hmv:mayV ⟨xk,xn,xs⟩
          ·have HMV2:=lh hmv;clear hmv;go_wp2;go_ret;exact ⟨ret_int (by rw [HE.out,if_pos (HBR.out (by simp [badRow,HT4.out (by simp [noMay,HMV2.out])]))]),HK.out.trans HK3.out⟩
          ·have HMV2:=lh hmv;clear hmv
           by_cases hck:ck=2
           ·have hkb:(ck==2)=true:=by simpa using hck
            have HKT:=lh (show kindT ⟨cn,ck⟩=2 by unfold kindT;rw [if_pos hck])
            cases hx:(xk != 2)
            ·have HX:=lh hx;go_wp2;go_roundw
             case rel=>exact ⟨j+1,o2,_,by omega,by go_num,rfl,HF9.out,(by show _=_;rw [HT5.out,HKT.out,HX.out,Bool.or_false];exact HO2.out),(by show _=_;rw [HT3.out,HN2.out];simp [noMay,HMV2.out]),HK3.out⟩
             case measure=>simp [intOf];omega
            ·have HX:=lh hx;go_wp2;go_roundw
             case rel=>exact ⟨j+1,true,_,by omega,by go_num,rfl,(by show _=_;rfl),(by show _=_;rw [HT5.out,HKT.out,HX.out,Bool.or_true,Bool.or_true]),(by show _=_;rw [HT3.out,HN2.out];simp [noMay,HMV2.out]),HK3.out⟩
             case measure=>simp [intOf];omega
           ·have hkb:(ck==2)=false:=by simpa using hck
            have HKT:=lh (show kindT ⟨cn,ck⟩=1 by unfold kindT;rw [if_neg hck])
            cases hx:(xk != 1)
            ·have HX:=lh hx;go_wp2;go_roundw
             case rel=>exact ⟨j+1,o2,_,by omega,by go_num,rfl,HF9.out,(by show _=_;rw [HT5.out,HKT.out,HX.out,Bool.or_false];exact HO2.out),(by show _=_;rw [HT3.out,HN2.out];simp [noMay,HMV2.out]),HK3.out⟩
             case measure=>simp [intOf];omega
            ·have HX:=lh hx;go_wp2;go_roundw
             case rel=>exact ⟨j+1,true,_,by omega,by go_num,rfl,(by show _=_;rfl),(by show _=_;rw [HT5.out,HKT.out,HX.out,Bool.or_true,Bool.or_true]),(by show _=_;rw [HT3.out,HN2.out];simp [noMay,HMV2.out]),HK3.out⟩
             case measure=>simp [intOf];omega
         ·have hjl:j=cs.length:=by omega
          subst hjl;have HVN:=lh (show vs.any noMay=false by have:=HN2.out;rw [← HLN.out,List.take_length] at this;exact this);go_wp2;go_roundw
          case rel=>exact ⟨k+1,o2,_,by omega,by go_num,rfl,HF9.out,(by show _=_;rw [HT.out,HO2.out,HOB.out];simp only [oddRow,HLN.out]),(by show _=_;rw [HT2.out,HBD.out];simp [badRow,HVN.out,HLN.out]),HK.out.trans HK2.out⟩
          case measure=>simp [intOf];omega
    ·have hd:((vs.length:Int) != (cs.length:Int))=true:=by simp;omega
     go_wp2;go_ret;exact ⟨ret_int (by rw [HE.out,if_pos (HBR.out (by simp [badRow,hln]))]),HK.out⟩
   ·have hkl:k=rows.length:=by omega
    subst hkl;rw [List.take_length] at HOB HBD;go_wp2;go_ret;exact ⟨ret_int (by rw [HE.out,HBD.out,if_neg (by decide),← HOB.out,HE9.out];rfl),HK.out⟩
end Go.Proofs.YtpkocnpamcchcaaGreatDoor
namespace Go.Sym
section
variable {α:Type} (lt:α→α→Bool)
structure Ord:Prop where
 asym:∀ a b,lt a b=true→lt b a=false
 trans:∀ a b c,lt b a=false→lt c b=false→lt c a=false
def eqv(a b:α):Bool:=!lt a b && !lt b a
def Srt(l:List α):Prop:=l.Pairwise fun a b=>lt b a=false
def Cls(l l':List α):Prop:=∀ x,l.filter (eqv lt x)=l'.filter (eqv lt x)
end
section
variable {α:Type} {lt:α→α→Bool}
theorem Ord.irr(h:Ord lt)(a:α):lt a a=false:=by
 cases e:lt a a
 ·rfl
 ·have:=h.asym a a e;rw [e] at this;exact this
theorem Ord.lt_le(h:Ord lt){a b c:α}(h1:lt a b=true)(h2:lt c b=false):lt a c=true:=by
 cases e:lt a c
 ·have:=h.trans b c a h2 e;rw [h1] at this
  cases this
 ·rfl
theorem Ord.le_lt(h:Ord lt){a b c:α}(h1:lt b a=false)(h2:lt b c=true):lt a c=true:=by
 cases e:lt a c
 ·have:=h.trans c a b e h1;rw [h2] at this
  cases this
 ·rfl
theorem eqv_iff{a b:α}:eqv lt a b=true↔lt a b=false∧lt b a=false:=by simp [eqv]
theorem Cls.refl(l:List α):Cls lt l l:=fun _=>rfl
theorem Cls.symm{l l':List α}(h:Cls lt l l'):Cls lt l' l:=fun x=>(h x).symm
theorem Cls.trans{l l' l'':List α}(h:Cls lt l l')(k:Cls lt l' l''):Cls lt l l'':=fun x=>(h x).trans (k x)
theorem Cls.app{a a' b b':List α}(h:Cls lt a a')(k:Cls lt b b'):Cls lt (a++b) (a'++b'):=fun x=>by rw [List.filter_append,List.filter_append,h x,k x]
theorem swap_cls(ho:Ord lt){X Y:List α}(h:∀ x∈X,∀ y∈Y,lt y x=true):Cls lt (X++Y) (Y++X):=fun z=>by
 rw [List.filter_append,List.filter_append]
 rcases hX:X.filter (eqv lt z) with _ | ⟨x,rx⟩
 ·simp
 rcases hY:Y.filter (eqv lt z) with _ | ⟨y,ry⟩
 ·simp
 have mx:x∈X.filter (eqv lt z):=by rw [hX];simp
 have my:y∈Y.filter (eqv lt z):=by rw [hY];simp
 rw [List.mem_filter,eqv_iff] at mx my;have h1:=h x mx.1 y my.1;have h2:=ho.lt_le h1 (show lt z x=false from mx.2.1);rw [my.2.2] at h2
 cases h2
theorem Cls.mem{l l':List α}(ho:Ord lt)(h:Cls lt l l')(x:α)(hx:x∈l):x∈l':=by
 have h1:x∈l.filter (eqv lt x):=by rw [List.mem_filter,eqv_iff];exact ⟨hx,ho.irr x,ho.irr x⟩
 rw [h x] at h1;exact (List.mem_filter.1 h1).1
theorem Cls.nil{l:List α}(ho:Ord lt)(h:Cls lt [] l):l=[]:=by
 cases l with
 | nil=>rfl
 | cons a r=>exact absurd (h.symm.mem ho a (by simp)) (by simp)
theorem srt_uniq(ho:Ord lt):∀ (l l':List α),Srt lt l→Srt lt l'→Cls lt l l'→l=l'
 | [],l',_,_,h=>(h.nil ho).symm
 | a :: r,[],_,_,h=>absurd (h.mem ho a (by simp)) (by simp)
 | a :: r,b :: r',hs,hs',h=>by
   have ha:∀ x∈a :: r,lt x a=false:=fun x hx=>by
     rcases List.mem_cons.1 hx with rfl|hx
     ·exact ho.irr _
     ·exact (List.pairwise_cons.1 hs).1 x hx
   have hb:∀ x∈b :: r',lt x b=false:=fun x hx=>by
     rcases List.mem_cons.1 hx with rfl|hx
     ·exact ho.irr _
     ·exact (List.pairwise_cons.1 hs').1 x hx
   have e1:lt a b=false:=hb a (h.mem ho a (by simp));have e2:lt b a=false:=ha b (h.symm.mem ho b (by simp));have hc:=h a;have k1:eqv lt a a=true:=eqv_iff.2 ⟨ho.irr a,ho.irr a⟩;have k2:eqv lt a b=true:=eqv_iff.2 ⟨e1,e2⟩;rw [List.filter_cons_of_pos k1,List.filter_cons_of_pos k2] at hc;obtain ⟨rfl,_⟩:=List.cons.inj hc
   congr 1
   refine srt_uniq ho r r' (List.pairwise_cons.1 hs).2 (List.pairwise_cons.1 hs').2 fun x=>?_;have hx:=h x;rw [List.filter_cons,List.filter_cons] at hx
   split at hx
   ·exact (List.cons.inj hx).2
   ·exact hx
theorem Srt.take{l:List α}(h:Srt lt l)(n:Nat):Srt lt (l.take n):=List.Pairwise.sublist (List.take_sublist n l) h
theorem Srt.drop{l:List α}(h:Srt lt l)(n:Nat):Srt lt (l.drop n):=List.Pairwise.sublist (List.drop_sublist n l) h
theorem srt_app{A B:List α}:Srt lt (A++B)↔Srt lt A∧Srt lt B∧∀ a∈A,∀ b∈B,lt b a=false:=List.pairwise_append
def Stb(lt:α→α→Bool)(l l':List α):Prop:=Srt lt l'∧Cls lt l l'
theorem Stb.mem{l l':List α}(ho:Ord lt)(h:Stb lt l l')(x:α):x∈l'↔x∈l:=⟨h.2.symm.mem ho x,h.2.mem ho x⟩
theorem stb_halves(ho:Ord lt){L1 L2 R1 R2 P Q:List α}(hs1:Srt lt (L1++L2))(hs2:Srt lt (R1++R2))(h12:∀ x∈L2,∀ y∈R1,lt y x=true)(h21:∀ x∈L1,∀ y∈R2,lt y x=false)
 (hP:Stb lt (L1++R1) P) (hQ:Stb lt (L2++R2) Q):Stb lt (L1++L2++(R1++R2)) (P++Q):=by
 obtain ⟨sL1,sL2,cL⟩:=srt_app.1 hs1;obtain ⟨sR1,sR2,cR⟩:=srt_app.1 hs2;constructor
 ·refine srt_app.2 ⟨hP.1,hQ.1,fun a ha b hb=>?_⟩;have ha':=(hP.mem ho a).1 ha;have hb':=(hQ.mem ho b).1 hb
  rcases List.mem_append.1 ha' with ha|ha<;>rcases List.mem_append.1 hb' with hb|hb
  ·exact cL a ha b hb
  ·exact h21 a ha b hb
  ·exact ho.asym _ _ (h12 b hb a ha)
  ·exact cR a ha b hb
 ·have h1:Cls lt (L2++R1) (R1++L2):=swap_cls ho h12;have h2:Cls lt (L1++L2++(R1++R2)) (L1++R1++(L2++R2)):=by
   have:=((Cls.refl L1).app h1).app (Cls.refl (lt:=lt) R2)
   simpa [List.append_assoc] using this
  exact h2.trans (hP.2.app hQ.2)
end
section
variable {α:Type}
def seg(d:List α)(i j:Nat):List α:=(d.drop i).take (j-i)
theorem seg_len(d:List α)(i j:Nat)(h:i≤j)(hj:j≤d.length):(seg d i j).length=j-i:=by simp [seg];omega
theorem seg_nil(d:List α)(i:Nat):seg d i i=[]:=by simp [seg]
theorem seg_app(d:List α)(i j k:Nat)(h1:i≤j)(h2:j≤k):seg d i j++seg d j k=seg d i k:=by
 unfold seg;have e:d.drop j=(d.drop i).drop (j-i):=by rw [List.drop_drop];congr 1;omega
 have e2:k-i=(j-i)+(k-j):=by omega
 rw [e,e2,List.take_add]
theorem seg_get(d:List α)(i j:Nat)(hj:j≤d.length)(k:Nat)(h:k<(seg d i j).length):(seg d i j)[k]=d[i+k]'(by simp [seg] at h;omega):=by
 simp [seg]
theorem seg_mem{d:List α}{i j:Nat}(hj:j≤d.length){x:α}(h:x∈seg d i j):∃ k,i≤k∧k<j∧∃ hk:k<d.length,d[k]=x:=by
 obtain ⟨k,hk,rfl⟩:=List.getElem_of_mem h;have hl:k<j-i:=by simp [seg] at hk;omega
 exact ⟨i+k,by omega,by omega,by omega,(seg_get d i j hj k hk).symm⟩
variable {lt:α→α→Bool}
theorem srt_seg{d:List α}{i j:Nat}(hj:j≤d.length)(h:Srt lt (seg d i j))(p q:Nat)(h1:i≤p)(h2:p<q)(h3:q<j):lt (d[q]'(by omega)) (d[p]'(by omega))=false:=by
 have hl:=seg_len d i j (by omega) hj;have:=List.pairwise_iff_getElem.1 h (p-i) (q-i) (by omega) (by omega) (by omega);rw [seg_get d i j hj,seg_get d i j hj] at this
 simpa [show i+(p-i)=p by omega,show i+(q-i)=q by omega] using this
structure CutAt(lt:α→α→Bool)(d:List α)(a m b s:Nat):Prop where
 lo:(if (a+b)/2<m then (a+b)/2+m-b else a)≤s
 hi:s≤(if (a+b)/2<m then (a+b)/2 else m)
 above:s<(if (a+b)/2<m then (a+b)/2 else m)→∃ (h1:(a+b)/2+m-1-s<d.length) (h2:s<d.length),lt d[(a+b)/2+m-1-s] d[s]=true
 below:(if (a+b)/2<m then (a+b)/2+m-b else a)<s→∃ (h1:(a+b)/2+m-s<d.length) (h2:s-1<d.length),lt d[(a+b)/2+m-s] d[s-1]=false
theorem cut_parts(ho:Ord lt){d:List α}{a m b s:Nat}(ham:a<m)(hmb:m<b)(hb:b≤d.length)(hL:Srt lt (seg d a m))(hR:Srt lt (seg d m b))(hc:CutAt lt d a m b s) :
 a≤s∧s≤m∧m≤(a+b)/2+m-s∧(a+b)/2+m-s≤b∧(∀ x∈seg d s m,∀ y∈seg d m ((a+b)/2+m-s),lt y x=true)∧(∀ x∈seg d a s,∀ y∈seg d ((a+b)/2+m-s) b,lt y x=false):=by
 obtain ⟨h1,h2,h3,h4⟩:=hc;have e1:a≤s:=by split at h1<;>omega
 have e2:s≤m:=by split at h2<;>omega
 have e3:m≤(a+b)/2+m-s:=by split at h2<;>omega
 have e4:(a+b)/2+m-s≤b:=by split at h1<;>omega
 refine ⟨e1,e2,e3,e4,fun x hx y hy=>?_,fun x hx y hy=>?_⟩
 ·obtain ⟨i,i1,i2,i3,rfl⟩:=seg_mem (by omega) hx;obtain ⟨j,j1,j2,j3,rfl⟩:=seg_mem (by omega) hy;have hs:s<(if (a+b)/2<m then (a+b)/2 else m):=by split<;>split at h2<;>omega
  obtain ⟨k1,k2,hk⟩:=h3 hs;have a1:lt (d[i]) (d[s])=false:=by
   rcases Nat.eq_or_lt_of_le i1 with e|e
   ·subst e;exact ho.irr _
   ·exact srt_seg (by omega) hL s i e1 e i2
  have a2:lt (d[(a+b)/2+m-1-s]) (d[j])=false:=by
   rcases Nat.eq_or_lt_of_le (show j≤(a+b)/2+m-1-s by omega) with e|e
   ·subst e;exact ho.irr _
   ·exact srt_seg hb hR j ((a+b)/2+m-1-s) j1 e (by omega)
  exact ho.lt_le (ho.le_lt a2 hk) a1
 ·obtain ⟨i,i1,i2,i3,rfl⟩:=seg_mem (by omega) hx;obtain ⟨j,j1,j2,j3,rfl⟩:=seg_mem hb hy;have hs:(if (a+b)/2<m then (a+b)/2+m-b else a)<s:=by split<;>split at h1<;>omega
  obtain ⟨k1,k2,hk⟩:=h4 hs;have a1:lt (d[s-1]) (d[i])=false:=by
   rcases Nat.eq_or_lt_of_le (show i≤s-1 by omega) with e|e
   ·subst e;exact ho.irr _
   ·exact srt_seg (by omega) hL i (s-1) i1 e (by omega)
  have a2:lt (d[j]) (d[(a+b)/2+m-s])=false:=by
   rcases Nat.eq_or_lt_of_le j1 with e|e
   ·subst e;exact ho.irr _
   ·exact srt_seg hb hR ((a+b)/2+m-s) j e3 e j2
  exact ho.trans _ _ _ (ho.trans _ _ _ a1 hk) a2
end
section
variable {α:Type}
def swp(d:List α)(i j:Nat):List α:=match d[i]?,d[j]? with
 | some x,some y=>(d.set i y).set j x
 | _,_=>d
def swr(d:List α)(a b:Nat):Nat→List α
 | 0=>d
 | n+1=>swp (swr d a b n) (a+n) (b+n)
theorem swp_len(d:List α)(i j:Nat):(swp d i j).length=d.length:=by
 unfold swp
 split<;>simp
theorem swr_len(d:List α)(a b:Nat):∀ n,(swr d a b n).length=d.length
 | 0=>rfl
 | n+1=>by rw [swr,swp_len,swr_len d a b n]
theorem swp_parts(A B C:List α)(x y:α):swp (A++x :: (B++y :: C)) A.length (A.length+1+B.length)=A++y :: (B++x :: C):=by
 have h1:(A++x :: (B++y :: C))[A.length]? =some x:=by simp
 have h2:(A++x :: (B++y :: C))[A.length+1+B.length]? =some y:=by
  rw [List.getElem?_append_right (by omega),show A.length+1+B.length-A.length=B.length+1 by omega,List.getElem?_cons_succ];simp
 unfold swp;rw [h1,h2];simp only;rw [List.set_append_right _ _ (Nat.le_refl _),Nat.sub_self,List.set_cons_zero,List.set_append_right _ _ (by omega),show A.length+1+B.length-A.length=B.length+1 by omega,List.set_cons_succ,List.set_append_right _ _ (Nat.le_refl _),Nat.sub_self,List.set_cons_zero]
theorem swr_parts:∀ (n:Nat) (P X M Y Q:List α),X.length=n→Y.length=n→swr (P++(X++(M++(Y++Q)))) P.length (P.length+n+M.length) n=P++(Y++(M++(X++Q)))
 | 0,P,X,M,Y,Q,hx,hy=>by
   rw [List.eq_nil_of_length_eq_zero hx,List.eq_nil_of_length_eq_zero hy];rfl
 | n+1,P,X,M,Y,Q,hx,hy=>by
   obtain ⟨X',x,rfl⟩:∃ X' x,X=X'++[x]:=⟨X.dropLast,X.getLast (by intro e;rw [e] at hx;cases hx),(List.dropLast_concat_getLast _).symm⟩;obtain ⟨Y',y,rfl⟩:∃ Y' y,Y=Y'++[y]:=⟨Y.dropLast,Y.getLast (by intro e;rw [e] at hy;cases hy),(List.dropLast_concat_getLast _).symm⟩;have hx':X'.length=n:=by simpa using hx
   have hy':Y'.length=n:=by simpa using hy
   have ih:=swr_parts n P X' (x :: M) Y' (y :: Q) hx' hy';have e1:P++(X'++[x]++(M++(Y'++[y]++Q)))=P++(X'++(x :: M++(Y'++y :: Q))):=by simp
   have e2:P.length+(n+1)+M.length=P.length+n+(x :: M).length:=by simp;omega
   rw [swr,e1,e2,ih];have e3:P++(Y'++(x :: M++(X'++y :: Q)))=(P++Y')++x :: ((M++X')++y :: Q):=by simp
   have e4:P.length+n=(P++Y').length:=by simp [hy']
   have e5:P.length+n+(x :: M).length+n=(P++Y').length+1+(M++X').length:=by simp [hx',hy'];omega
   rw [e3,e5,e4,swp_parts];simp
def rotL(d:List α)(a m b:Nat):List α:=d.take a++(seg d m b++(seg d a m++d.drop b))
theorem parts(d:List α)(a m b:Nat)(h1:a≤m)(h2:m≤b):d=d.take a++(seg d a m++(seg d m b++d.drop b)):=by
 rw [← List.append_assoc (seg d a m),seg_app d a m b h1 h2];unfold seg;have e:d.drop b=(d.drop a).drop (b-a):=by rw [List.drop_drop];congr 1;omega
 rw [e,List.take_append_drop,List.take_append_drop]
theorem rotL_len(d:List α)(a m b:Nat)(h1:a≤m)(h2:m≤b)(h3:b≤d.length):(rotL d a m b).length=d.length:=by
 have:=congrArg List.length (parts d a m b h1 h2);simp only [rotL,List.length_append] at this ⊢;omega
theorem rotL_left(d:List α)(m b:Nat)(h2:m≤b):rotL d m m b=d:=by
 unfold rotL;rw [seg_nil,List.nil_append];have:=parts d m m b (Nat.le_refl _) h2;rw [seg_nil,List.nil_append] at this;exact this.symm
theorem rotL_right(d:List α)(a m:Nat)(h1:a≤m):rotL d a m m=d:=by
 unfold rotL;rw [seg_nil,List.nil_append];have:=parts d a m m h1 (Nat.le_refl _);rw [seg_nil,List.nil_append] at this;exact this.symm
theorem seg_mid{P X Q:List α}{i j:Nat}(hi:P.length=i)(hj:i+X.length=j):seg (P++(X++Q)) i j=X:=by
 subst hi;unfold seg;rw [List.drop_left,show j-P.length=X.length by omega,List.take_left]
theorem rot_segs(d:List α)(a m b s mid:Nat)(h1:a≤s)(h2:s≤m)(h3:m≤mid+m-s)(h4:mid+m-s≤b)(h5:b≤d.length) :
 (rotL d s m (mid+m-s)).take a=d.take a∧(rotL d s m (mid+m-s)).drop b=d.drop b∧seg (rotL d s m (mid+m-s)) a s=seg d a s∧seg (rotL d s m (mid+m-s)) s mid=seg d m (mid+m-s)∧seg (rotL d s m (mid+m-s)) mid (mid+m-s)=seg d s m∧seg (rotL d s m (mid+m-s)) (mid+m-s) b=seg d (mid+m-s) b:=by
 obtain ⟨e,he⟩:∃ e,e=mid+m-s:=⟨_,rfl⟩;rw [← he] at h3 h4 ⊢;have l1:=seg_len d a s h1 (by omega);have l2:=seg_len d s m h2 (by omega);have l3:=seg_len d m e h3 (by omega);have l4:=seg_len d e b h4 h5;have la:(d.take a).length=a:=by simp;omega
 have hp:d.take s=d.take a++seg d a s:=by
  unfold seg;rw [← List.take_add]
  congr 1
  omega
 have hq:d.drop e=seg d e b++d.drop b:=by
  unfold seg;have:d.drop b=(d.drop e).drop (b-e):=by rw [List.drop_drop];congr 1;omega
  rw [this,List.take_append_drop]
 have hr:rotL d s m e=d.take a++(seg d a s++(seg d m e++(seg d s m++(seg d e b++d.drop b)))):=by
  unfold rotL;rw [hp,hq];simp
 rw [hr];refine ⟨?_,?_,?_,?_,?_,?_⟩
 ·rw [List.take_append_of_le_length (by omega),List.take_of_length_le (by omega)]
 ·have e1:d.take a++(seg d a s++(seg d m e++(seg d s m++(seg d e b++d.drop b))))=(d.take a++(seg d a s++(seg d m e++(seg d s m++seg d e b))))++d.drop b:=by simp
  rw [e1];have e2:(d.take a++(seg d a s++(seg d m e++(seg d s m++seg d e b)))).length=b:=by simp only [List.length_append];omega
  exact List.drop_left' e2
 ·exact seg_mid la (by omega)
 ·rw [← List.append_assoc (d.take a)];exact seg_mid (by simp only [List.length_append];omega) (by omega)
 ·rw [← List.append_assoc (d.take a),← List.append_assoc (d.take a++seg d a s)];exact seg_mid (by simp only [List.length_append];omega) (by omega)
 ·rw [← List.append_assoc (d.take a),← List.append_assoc (d.take a++seg d a s),← List.append_assoc (d.take a++seg d a s++seg d m e)];exact seg_mid (by simp only [List.length_append];omega) (by omega)
end
end Go.Sym
