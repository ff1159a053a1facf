/- Parts of the proof. -/
import Derived.Test.YtpkocnpamcchcaaGreatDoorK24
set_option maxRecDepth 100000
set_option maxHeartbeats 4000000
set_option linter.unusedSimpArgs false
set_option linter.unusedVariables false
set_option linter.unnecessarySimpa false
namespace Go.Proofs.YtpkocnpamcchcaaGreatDoor
open Go.RowKit Go.Zone Go.Shelf
attribute [local go_sem] zone stepZ fill lookFs goes goesUpon dropFs cell_gro frozen_gro size_gro lt_add drew_gro tape_gro keep_refl
attribute [local go_sem] lt_add2 lt_add3 lt_add4 lt_add5 lt_add6 lt_add7 lt_add8 lt_add9 lt_add10 lt_add11 lt_add12
def keysL:Option Roa.Con→List Nat
 | none=>[]
 | some _=>[0]
theorem keys_any{w:World}{s:Option Roa.Con}{p:Value}(h:SetAt w s p):Calls Tryz.prog 171 #[p] w fun e w'=>∃ A c,e=.returned (.slice A (keysL s).length c)∧OwnU16 w' w.heap.size (.slice A (keysL s).length c) (keysL s)∧Keep w w':=by
 cases h with
 | nil_ b h =>
   have HC:=lh (cloneu16_any none 0 [] w (Sl.nil_ _ (by decide)) (by decide));have x0:=h.cell 0 _ rfl;have hb:=h.lt;simp only [keysL,List.length_nil] at HC ⊢;clear h;go_enter Tryz.func171,Tryz.ntmps171;go_wp2_with (go_at_call 205;refine hold ?_);refine unhold ?_;refine HC.out.mono ?_;rintro e w1 ⟨A',c',rfl,ho,hk⟩;have HO:=lh ho;have HK:=lh hk;clear ho hk;go_wp2;go_ret;exact ⟨_,_,rfl,HO.out,HK.out⟩
 | one b kv lv c m h hk hl hc =>
   obtain ⟨A,d,rfl,hsl⟩:=own_sl1 hk u16_len (by decide);have HC:=lh (cloneu16_any A d [0] w hsl (by decide));have x0:=h.cell 0 _ rfl;have hb:=h.lt;simp only [keysL,List.length_cons,List.length_nil,Nat.zero_add] at HC x0 ⊢;clear h hk hl hc hsl;go_enter Tryz.func171,Tryz.ntmps171;go_wp2_with (go_at_call 205;refine hold ?_);refine unhold ?_;refine HC.out.mono ?_;rintro e w1 ⟨A',c',rfl,ho,hk⟩;have HO:=lh ho;have HK:=lh hk;clear ho hk;go_wp2;go_ret;exact ⟨_,_,rfl,HO.out,HK.out⟩
theorem slist_one{w:World}{b:Nat}{kv lv:Value}{m:Cm}(h:Row w b 242 [kv,lv])(hl:OwnCm w 0 lv [m]):Calls Tryz.prog 244 #[.pointer (some ⟨b,0,none⟩)] w fun e w'=>e=.returned lv∧Keep w w':=by
 obtain ⟨A,d,rfl,hsl⟩:=own_sl1 hl cm_len (by simp);have x1:=h.cell 1 _ rfl;have hb:=h.lt;simp only [List.length_cons,List.length_nil,Nat.zero_add] at x1 ⊢;clear h hl hsl;go_enter Tryz.func244,Tryz.ntmps244;go_wp2;go_ret;exact ⟨rfl,(by repeat first|exact kp0|apply kp1|apply kp2|apply kp3|apply kp4)⟩
theorem sat_any{w:World}{b:Nat}{kv lv:Value}{m:Cm}{c:Roa.Con}(h:Row w b 242 [kv,lv])(hl:OwnCm w 0 lv [m])(hc:ConAt w c m.v):Calls Tryz.prog 204 #[.pointer (some ⟨b,0,none⟩),.int .i64 0] w fun e w'=>e=.returned (.tuple #[m.v,.bool true])∧Keep w w':=by
 have HL:=lh (fun W (hW:Keep w W)=>slist_one (h.keep hW) (Zone.Own.keep hl hW));obtain ⟨A,d,rfl,hsl⟩:=own_sl1 hl cm_len (by simp);have HSL:=lh hsl;have HR:=lh h;obtain ⟨k,A1,n1,c1,A2,n2,c2,A3,n3,c3⟩:=m;simp only [List.length_cons,List.length_nil,Nat.zero_add,Cm.v] at HL HR ⊢;clear h hl hc hsl;go_enter Tryz.func204,Tryz.ntmps204;go_wp2_with (go_at_call 244;refine hold ?_);refine unhold ?_;have hRB:Row (w.alloc (.cells #[.int .u8 0,.slice none 0 0,.slice none 0 0,.slice none 0 0] 237)) w.heap.size 237 [.int .u8 0,.slice none 0 0,.slice none 0 0,.slice none 0 0]:=row_alloc _ _ _;refine (HL.out _ (by repeat first|exact kp0|apply kp1|apply kp2|apply kp3|apply kp4)).mono ?_;rintro e w1 ⟨rfl,hk1⟩;have HRB:=lh (hRB.keep hk1);have HK1:=lh (Keep.trans (show Keep w _ from (by repeat first|exact kp0|apply kp1|apply kp2|apply kp3|apply kp4)) hk1);clear hRB hk1;have HGE:=lh (Nat.le_refl w.heap.size);generalize hg:w.heap.size=g at HRB ⊢;have HGG:=lh hg;have HR1:=lh (HR.out.keep HK1.out);have x1:=HR1.out.cell 1 _ rfl;have hb:=HR1.out.lt;obtain ⟨bA,off,hA,hc⟩:=(HSL.out.keep HK1.out).at_ 0 (by simp);subst hA;have z0:=hc 0 _ rfl;have z1:=hc 1 _ rfl;have z2:=hc 2 _ rfl;have z3:=hc 3 _ rfl;simp only [Nat.zero_mul,Nat.add_zero] at z0 z1 z2 z3;have hbA:=block_lt_of_cell z0;have y0:=HRB.out.cell 0 _ rfl;have y1:=HRB.out.cell 1 _ rfl;have y2:=HRB.out.cell 2 _ rfl;have y3:=HRB.out.cell 3 _ rfl;have q0:=HRB.out.soft 0;have q1:=HRB.out.soft 1;have q2:=HRB.out.soft 2;have q3:=HRB.out.soft 3
 have hgs:=HRB.out.lt;have HR4:=lh ((((HRB.out.set 0 (.int .u8 (k:Int))).set 1 (.slice A1 n1 c1)).set 2 (.slice A2 n2 c2)).set 3 (.slice A3 n3 c3));have HK4:=lh ((((HK1.out.setCell (a:=⟨g,0,none⟩) (Nat.le_of_eq hg) (.int .u8 (k:Int))).setCell (a:=⟨g,1,none⟩) (Nat.le_of_eq hg) (.slice A1 n1 c1)).setCell (a:=⟨g,2,none⟩) (Nat.le_of_eq hg) (.slice A2 n2 c2)).setCell (a:=⟨g,3,none⟩) (Nat.le_of_eq hg) (.slice A3 n3 c3));clear hc hg HL HSL;go_wp2;generalize (((w1.setCell ⟨g,0,none⟩ (.int .u8 (k:Int))).setCell ⟨g,1,none⟩ (.slice A1 n1 c1)).setCell ⟨g,2,none⟩ (.slice A2 n2 c2)).setCell ⟨g,3,none⟩ (.slice A3 n3 c3)=w5 at HR4 HK4 ⊢;exact bodyPost_ret (v:=.tuple #[.agg #[.int .u8 (k:Int),.slice A1 n1 c1,.slice A2 n2 c2,.slice A3 n3 c3],.bool true]) (results_cell_row_tmp (fn:=Tryz.f204) (p:=4) (u:=5) (ty:=237) rfl _ _ g #[.int .u8 (k:Int),.slice A1 n1 c1,.slice A2 n2 c2,.slice A3 n3 c3] rfl (load_con HR4.out)) rfl ⟨rfl,HK4.out⟩
def sizeC:Roa.Con→Nat
 | .arr a=>2*a.length
 | .wrd _=>8192
 | .run r=>2+4*r.length
theorem csize_any{w:World}{c:Roa.Con}{v:Value}(h:ConAt w c v)(hf:Fit c):Calls Tryz.prog 174 #[v] w fun e w'=>e=.returned (.int .i64 (sizeC c:Nat))∧Keep w w':=by
 obtain ⟨hg,hw⟩:=hf
 cases h with
 | arr a k A c hk h =>
   simp only [Roa.Con.W] at hw;simp only [sizeC];generalize a.length=n at hw ⊢;have e2:((k:Int)==2)=false:=by simp;omega
   have e3:((k:Int)==3)=false:=by simp;omega
   have e4:¬ (k:Int)=2:=by omega
   have e5:¬ (k:Int)=3:=by omega
   have e6:IntKind.i64.wrap (2*(n:Int))=((2*n:Nat):Int):=by rw [IntWalk.i64_in _ ⟨by omega,by omega⟩];omega
   clear h hg hk;go_enter Tryz.func174,Tryz.ntmps174;go_wp2;go_ret;exact ⟨ret_int (by omega),(by repeat first|exact kp0|apply kp1|apply kp2|apply kp3|apply kp4)⟩
 | wrd x A c h =>
   simp only [sizeC];clear h hg hw;go_enter Tryz.func174,Tryz.ntmps174;go_wp2;go_ret;exact ⟨rfl,(by repeat first|exact kp0|apply kp1|apply kp2|apply kp3|apply kp4)⟩
 | run r A c h =>
   simp only [Roa.Con.W] at hw;simp only [sizeC];generalize r.length=n at hw ⊢;have e6:IntKind.i64.wrap (4*(n:Int))=((4*n:Nat):Int):=by rw [IntWalk.i64_in _ ⟨by omega,by omega⟩];omega
   have e7:IntKind.i64.wrap (2+((4*n:Nat):Int))=((2+4*n:Nat):Int):=by rw [IntWalk.i64_in _ ⟨by omega,by omega⟩];omega
   clear h hg;go_enter Tryz.func174,Tryz.ntmps174;go_wp2;go_ret;exact ⟨ret_int (by omega),(by repeat first|exact kp0|apply kp1|apply kp2|apply kp3|apply kp4)⟩
def bodyC:Roa.Con→List UInt8
 | .arr a=>a.flatMap (le · 2)
 | .wrd _=>[]
 | .run r=>le r.length 2++r.flatMap (fun p=>le p.1 2++le p.2 2)
theorem flat2_len:∀ l:List Nat,(l.flatMap (le · 2)).length=l.length*2
 | []=>rfl
 | x :: r=>by simp only [List.flatMap_cons,List.length_append,flat2_len r,le_len,List.length_cons];omega
theorem flatr_len:∀ l:List Pr,(l.flatMap (fun p=>le p.1 2++le p.2 2)).length=l.length*4
 | []=>rfl
 | x :: r=>by simp only [List.flatMap_cons,List.length_append,flatr_len r,le_len,List.length_cons];omega
theorem body_arr{w:World}{a:List Nat}{v:Value}(h:ConAt w (.arr a) v)(hf:Fit (.arr a))(htab:Tab w):Calls Tryz.prog 175 #[v] w fun e w'=>∃ u,e=.returned u∧OwnB w' w.heap.size u (bodyC (.arr a))∧Keep w w':=by
 have HKD:=lh (fun W (hW:Keep w W)=>kind_any (h.keep hW));have HAR:=lh (fun W (hW:Keep w W)=>carr_any (h.keep hW) hf (htab.keep hW));have HB:=lh (show ∀ x∈a,x<64 from hf.1);have hl:a.length≤2000:=hf.2;have HLL:=lh (show a.length≤1000000 by omega);simp only [Roa.Con.kind,Roa.Con.list,bodyC] at HKD HAR ⊢;rw [show ((1:Nat):Int)=1 from rfl] at HKD;obtain ⟨k,A1,n1,c1,A2,n2,c2,A3,n3,c3,rfl⟩:=con_form h;generalize hn:a.length=n at hl;have HN:=lh hn;clear h hf htab hn;go_enter Tryz.func175,Tryz.ntmps175;go_wp2_with (go_at_call 170;refine hold ?_);refine unhold ?_;have hRB:Row (w.alloc (.cells #[.int .u8 k,.slice A1 n1 c1,.slice A2 n2 c2,.slice A3 n3 c3] 237)) w.heap.size 237 [.int .u8 k,.slice A1 n1 c1,.slice A2 n2 c2,.slice A3 n3 c3]:=row_alloc _ _ _;refine (HKD.out _ (by repeat first|exact kp0|apply kp1|apply kp2|apply kp3|apply kp4)).mono ?_;rintro e w1 ⟨rfl,hk1⟩;have HRB:=lh (hRB.keep hk1);have HK1:=lh (Keep.trans (show Keep w _ from (by repeat first|exact kp0|apply kp1|apply kp2|apply kp3|apply kp4)) hk1);clear hRB hk1;have y0:=HRB.out.cell 0 _ rfl;have y1:=HRB.out.cell 1 _ rfl;have y2:=HRB.out.cell 2 _ rfl;have y3:=HRB.out.cell 3 _ rfl;have hgs:=HRB.out.lt;go_wp2_with (go_at_call 211;refine hold ?_);refine unhold ?_;refine (HAR.out _ HK1.out).mono ?_;rintro e w2 ⟨u,rfl,ho,hk2⟩;obtain ⟨B,d,rfl,hsl⟩:=own_sl1 ho u16_len HLL.out;have HSL:=lh hsl;have HK2:=lh (HK1.out.trans hk2);rw [HN.out];clear ho hsl hk2 y0 y1 y2 y3 hgs HRB HK1 HAR HKD;go_wp2
 go_loopw [2,15] (fun vb vi wr=>∃ (k:Nat) (v:Value),k≤n∧vi=.int .i64 k∧v=vb∧Hid (OwnB wr w.heap.size v ((a.take k).flatMap (le · 2)))∧Hid (Keep w2 wr)) (fun _ vi _=>n-(intOf vi).toNat)
 case atStart=>exact ⟨0,.slice none 0 0,Nat.zero_le _,rfl,rfl,Own.nil_ _ _ _ _ _,Keep.refl _⟩
 case round =>
  obtain ⟨j,v,hj,rfl,rfl,HO,HK⟩:=hrel
  by_cases hlt:j<n
  ·have hjn:j<a.length:=by rw [HN.out];exact hlt
   obtain ⟨bA,off,hA,hbA,h0⟩:=sl_u16 (HSL.out.keep HK.out) j hjn;subst hA;have hx:=HB.out a[j] (List.getElem_mem hjn);have HTK:=lh (show (a.take (j+1)).flatMap (le · 2)=(a.take j).flatMap (le · 2)++le a[j] 2 by rw [List.take_succ_eq_append_getElem hjn,List.flatMap_append];simp);have hfl:((a.take j).flatMap (le · 2)).length≤j*2:=by rw [flat2_len,List.length_take];omega
   generalize a[j]=x at h0 hx HTK;obtain ⟨A8,c8,hv8,hsl8⟩:=HO.out.sl b8_len (by omega);have HC:=lh (app16_any A8 c8 _ x (by omega) wr hsl8 (by omega));generalize ((a.take j).flatMap (le · 2)).length=M at hv8 HC;subst hv8;clear hfl hsl8;go_wp2_with (go_at_call 64;refine hold ?_);refine unhold ?_;refine HC.out.mono ?_;rintro e w3 ⟨v3,rfl,ho3,hk3⟩;have HO3:=lh (ho3.base_mono (Nat.le_trans HK2.out.size HK.out.size));have HK3:=lh (HK.out.trans hk3);clear ho3 hk3 HC;go_wp2;go_roundw
   case rel=>exact ⟨j+1,v3,by omega,by go_num,rfl,(by show OwnB _ _ _ _;rw [HTK.out];exact HO3.out),HK3.out⟩
   case measure=>simp [intOf];omega
  ·have hjn:j=n:=by omega
   subst hjn;rw [← HN.out,List.take_length] at HO;go_wp2;exact bodyPost_ret (v:=v) (by simp [results,Tryz.results175,go_sem]) rfl ⟨_,rfl,HO.out,HK2.out.trans HK.out⟩
theorem body_run{w:World}{r:List Pr}{v:Value}(h:ConAt w (.run r) v)(hf:Fit (.run r))(htab:Tab w):Calls Tryz.prog 175 #[v] w fun e w'=>∃ u,e=.returned u∧OwnB w' w.heap.size u (bodyC (.run r))∧Keep w w':=by
 have HKD:=lh (fun W (hW:Keep w W)=>kind_any (h.keep hW));have HAR:=lh (fun W (hW:Keep w W)=>cruns_any (h.keep hW) hf (htab.keep hW));have HB:=lh (show ∀ p∈r,p.1+p.2+1≤64 from hf.1);have hl:r.length≤1000:=by have:=hf.2;simp only [Roa.Con.W] at this;omega
 have HLL:=lh (show r.length≤1000000 by omega);simp only [Roa.Con.kind,Roa.Con.runs,bodyC] at HKD HAR ⊢;rw [show ((3:Nat):Int)=3 from rfl] at HKD;obtain ⟨k,A1,n1,c1,A2,n2,c2,A3,n3,c3,rfl⟩:=con_form h;generalize hn:r.length=n at hl ⊢;have HN:=lh hn;have e0:IntKind.u16.wrap (n:Int)=(n:Int):=by simp [IntKind.wrap,IntKind.signed,IntKind.bits];omega
 clear h hf htab hn;go_enter Tryz.func175,Tryz.ntmps175;go_wp2_with (go_at_call 170;refine hold ?_);refine unhold ?_;have hRB:Row (w.alloc (.cells #[.int .u8 k,.slice A1 n1 c1,.slice A2 n2 c2,.slice A3 n3 c3] 237)) w.heap.size 237 [.int .u8 k,.slice A1 n1 c1,.slice A2 n2 c2,.slice A3 n3 c3]:=row_alloc _ _ _;refine (HKD.out _ (by repeat first|exact kp0|apply kp1|apply kp2|apply kp3|apply kp4)).mono ?_;rintro e w1 ⟨rfl,hk1⟩;have HRB:=lh (hRB.keep hk1);have HK1:=lh (Keep.trans (show Keep w _ from (by repeat first|exact kp0|apply kp1|apply kp2|apply kp3|apply kp4)) hk1);clear hRB hk1;have y0:=HRB.out.cell 0 _ rfl;have y1:=HRB.out.cell 1 _ rfl;have y2:=HRB.out.cell 2 _ rfl;have y3:=HRB.out.cell 3 _ rfl;have hgs:=HRB.out.lt;go_wp2_with (go_at_call 209;refine hold ?_);refine unhold ?_;refine (HAR.out _ HK1.out).mono ?_;rintro e w2 ⟨u,rfl,ho,hk2⟩;obtain ⟨B,d,rfl,hsl⟩:=own_sl1 ho rn_len HLL.out;have HSL:=lh hsl;have HK2:=lh (HK1.out.trans hk2);rw [HN.out];clear ho hsl hk2 y0 y1 y2 y3 hgs HRB HK1 HAR HKD;go_wp2_with (go_at_call 64;refine hold ?_);refine unhold ?_;refine (app16_any none 0 [] n (by omega) w2 (Sl.nil_ _ (by decide)) (by simp)).mono ?_;rintro e w3 ⟨v3,rfl,ho3,hk3⟩;have HO3:=lh (ho3.base_mono HK2.out.size);have HK3:=lh (HK2.out.trans hk3);have HSL3:=lh (HSL.out.keep hk3);clear ho3 hk3 HK2 HSL;go_wp2
 go_loopw [2,34] (fun vb vi wr=>∃ (k:Nat) (v:Value),k≤n∧vi=.int .i64 k∧v=vb∧Hid (OwnB wr w.heap.size v (le n 2++(r.take k).flatMap (fun p=>le p.1 2++le p.2 2)))∧Hid (Keep w3 wr)) (fun _ vi _=>n-(intOf vi).toNat)
 case atStart=>exact ⟨0,v3,Nat.zero_le _,rfl,rfl,(by show OwnB _ _ _ _;simpa using HO3.out),Keep.refl _⟩
 case round =>
  obtain ⟨j,v,hj,rfl,rfl,HO,HK⟩:=hrel
  by_cases hlt:j<n
  ·have hjn:j<r.length:=by rw [HN.out];exact hlt
   obtain ⟨bA,off,hA,hbA,h0,h1⟩:=sl_rn (HSL3.out.keep HK.out) j hjn;subst hA;have hp:=HB.out r[j] (List.getElem_mem hjn);have HTK:=lh (show le n 2++(r.take (j+1)).flatMap (fun p=>le p.1 2++le p.2 2)=le n 2++(r.take j).flatMap (fun p=>le p.1 2++le p.2 2)++le r[j].1 2++le r[j].2 2 by rw [List.take_succ_eq_append_getElem hjn,List.flatMap_append];simp);have hfl:(le n 2++(r.take j).flatMap (fun p=>le p.1 2++le p.2 2)).length≤2+j*4:=by rw [List.length_append,flatr_len,le_len,List.length_take];omega
   generalize r[j]=p at h0 h1 hp HTK;obtain ⟨x,y⟩:=p;simp only at h0 h1 hp HTK;generalize le n 2++(r.take j).flatMap (fun p=>le p.1 2++le p.2 2)=L at HO HTK hfl;obtain ⟨A8,c8,hv8,hsl8⟩:=HO.out.sl b8_len (by omega);have HS8:=lh hsl8;have HFL:=lh hfl;generalize hM:L.length=M at hv8;have HM:=lh hM;clear hM;subst hv8;clear hsl8 hfl;go_upto_region 13 with fail;have hRP:Row (wr.alloc (.cells #[.int .u16 (x:Int),.int .u16 (y:Int)] 277)) wr.heap.size 277 [.int .u16 (x:Int),.int .u16 (y:Int)]:=row_alloc _ _ _;have hKP:Keep wr (wr.alloc (.cells #[.int .u16 (x:Int),.int .u16 (y:Int)] 277)):=(by repeat first|exact kp0|apply kp1|apply kp2|apply kp3|apply kp4);generalize wr.alloc (.cells #[.int .u16 (x:Int),.int .u16 (y:Int)] 277)=w4 at hRP hKP ⊢;generalize wr.heap.size=g at hRP ⊢;have HKP:=lh (HK.out.trans hKP);have HKPS:=lh (Nat.le_trans HK3.out.size HKP.out.size);have HS4:=lh (HS8.out.keep hKP);have z0:=hRP.cell 0 _ rfl;have z1:=hRP.cell 1 _ rfl;have hgs:=hRP.lt;clear hRP hKP h0 h1 hbA HS8;have HA1:=lh (fun W (hW:Keep w4 W)=>app16_any A8 c8 L x (by omega) W (HS4.out.keep hW) (by have:=HFL.out;omega));rw [HM.out] at HA1;have HFL2:=lh (show (L++le x 2).length≤5000 by have:=HFL.out;simp only [List.length_append,le_len];omega);have HA2:=lh (fun W A c (hW:SlB W A c (L++le x 2))=>app16_any A c (L++le x 2) y (by omega) W hW (by have:=HFL2.out;omega));obtain ⟨lo,hlo⟩:∃ lo,w4.heap.size=lo:=⟨_,rfl⟩;have HLO:=lh hlo;clear hlo
   first|refine Zone.wp_region_all_gro (by kernel_rfl) (by kernel_rfl) ?_|refine Zone.wp_region_all (by kernel_rfl) (by kernel_rfl) ?_
   iterate 3
    refine Zone.wpZ_step (fun K hK=>?_);go_simp
    (refine hK _ _ ?_;clear hK K)
   refine Zone.wpZ_free 41 (fun u W=>OwnB W lo u (L++le x 2)) rfl (fun _ W W' hk h=>Zone.Own.keep h hk) ?_ ?_
   ·intro p;rw [Zone.lookFs_nil (by rfl)];simp only [Zone.fill];go_simp;go_at_call 64;refine (HA1.out _ (by repeat first|exact kp0|apply kp1|apply kp2|apply kp3|apply kp4)).mono ?_;rintro e w5 ⟨u,rfl,ho,hk⟩;exact ⟨u,rfl,ho.base_mono (base':=lo) (by rw [← HLO.out];simp [size_gro]),hk⟩
   iterate 2
    refine Zone.wpZ_step (fun K hK=>?_);unfold Zone.zone Zone.stepZ;rw [Zone.lookFs_nil (by rfl)];go_simp
    (refine hK _ _ ?_;clear hK K)
   refine Zone.wpZ_free 44 (fun u W=>OwnB W lo u (L++(le x 2++le y 2))) rfl (fun _ W W' hk h=>Zone.Own.keep h hk) ?_ ?_
   ·intro p;rw [show Zone.lookFs _ _ _=[(41,fun u W=>OwnB W lo u (L++le x 2))] from rfl];rintro v5 hv5;obtain ⟨A9,c9,rfl,hs9⟩:=own_sl1 hv5 b8_len (by have:=HFL2.out;omega);have HC9:=lh (HA2.out _ _ _ hs9);generalize (L++le x 2).length=M2 at HC9;clear hv5 hs9;go_simp;go_at_call 64;refine HC9.out.mono ?_;rintro e w5 ⟨u,rfl,ho,hk⟩;rw [List.append_assoc] at ho;exact ⟨u,rfl,ho.base_mono (base':=lo) (by rw [← HLO.out];simp [size_gro]),hk⟩
   refine Zone.wpZ_free 2 (fun u W=>OwnB W lo u (L++(le x 2++le y 2))) rfl (fun _ W W' hk h=>Zone.Own.keep h hk) ?_ ?_
   ·intro p;rw [show Zone.lookFs _ _ _=[(44,fun u W=>OwnB W lo u (L++(le x 2++le y 2)))] from rfl];rintro v hv;go_simp
    all_goals first|exact ⟨hv,Keep.refl _⟩|exact hv
   refine Zone.wpZ_nil ?_;intro p5;simp only [Zone.fill];rintro v2 hv2 v44 _ v41 _;have HO5:=lh (show OwnB (w4.gro p5) w.heap.size v2 (L++(le x 2++le y 2)) from hv2.base_mono (by rw [← HLO.out];exact HKPS.out));have HK5:=lh (HKP.out.trans (show Keep w4 (w4.gro p5) from below_gro _ _));generalize w4.gro p5=w6 at HO5 HK5 ⊢;clear hv2 z0 z1 hgs;go_simp;go_wp2;go_roundw
   case rel=>exact ⟨j+1,v2,by omega,by go_num,rfl,(by show OwnB _ _ _ _;rw [HTK.out,List.append_assoc];exact HO5.out),HK5.out⟩
   case measure=>simp [intOf];omega
  ·have hjn:j=n:=by omega
   subst hjn;rw [← HN.out,List.take_length,HN.out] at HO;go_wp2;exact bodyPost_ret (v:=v) (by simp [results,Tryz.results175,go_sem]) rfl ⟨_,rfl,HO.out,HK3.out.trans HK.out⟩
theorem body_any{w:World}{c:Roa.Con}{v:Value}(h:ConAt w c v)(hf:Fit c)(hn:c.NotW)(htab:Tab w):Calls Tryz.prog 175 #[v] w fun e w'=>∃ u,e=.returned u∧OwnB w' w.heap.size u (bodyC c)∧Keep w w':=by
 cases c with
 | arr a=>exact body_arr h hf htab
 | wrd x=>exact hn.elim
 | run r=>exact body_run h hf htab
theorem all_nil{w:World}{p:Value}(h:SetAt w none p):Calls Tryz.prog 169 #[p] w fun e w'=>e=.returned (.tuple #[.slice none 0 0,.int .i64 0])∧Keep w w':=by
 have HK:=lh (keys_any h);simp only [keysL,List.length_nil] at HK
 cases h with
 | nil_ b h =>
   clear h;go_enter Tryz.func169,Tryz.ntmps169;go_wp2_with (go_at_call 171;refine hold ?_);refine unhold ?_;refine HK.out.mono ?_;rintro e w1 ⟨A,c,rfl,_,hk1⟩;have HK1:=lh hk1;clear hk1;go_wp2;refine wp_loop_rounds 1 ?_;rw [rounds_succ];go_wp2;exact bodyPost_ret (v:=.tuple #[.slice none 0 0,.int .i64 0]) (by simp [results,Tryz.results169,go_sem]) rfl ⟨rfl,HK1.out⟩
def runK(c:Roa.Con):Nat:=if c.kind=3 then 1 else 0
theorem all_one{w:World}{b:Nat}{kv lv:Value}{m:Cm}{c:Roa.Con}(h:Row w b 242 [kv,lv])(hk:OwnU16 w 0 kv [0])(hl:OwnCm w 0 lv [m])(hc:ConAt w c m.v) :
 Calls Tryz.prog 169 #[.pointer (some ⟨b,0,none⟩)] w fun e w'=>∃ u,e=.returned (.tuple #[u,.int .i64 (runK c:Nat)])∧OwnCm w' w.heap.size u [m]∧Keep w w':=by
 have HKY:=lh (keys_any (.one b kv lv c m h hk hl hc));have HAT:=lh (fun W (hW:Keep w W)=>sat_any (h.keep hW) (Zone.Own.keep hl hW) (hc.keep hW));have HKD:=lh (fun W (hW:Keep w W)=>kind_any (hc.keep hW));simp only [keysL,List.length_cons,List.length_nil,Nat.zero_add] at HKY;clear h hk hl hc;obtain ⟨k,A1,n1,c1,A2,n2,c2,A3,n3,c3⟩:=m;simp only [Cm.v] at HAT HKD;go_enter Tryz.func169,Tryz.ntmps169;go_wp2_with (go_at_call 171;refine hold ?_);refine unhold ?_;refine HKY.out.mono ?_;rintro e w1 ⟨A,c0,rfl,_,hk1⟩;have HK1:=lh hk1;clear hk1;go_wp2;refine wp_loop_rounds 2 ?_;rw [rounds_succ];go_wp2_with (go_at_call 204;refine hold ?_);refine unhold ?_;refine (HAT.out _ HK1.out).mono ?_;rintro e w2 ⟨rfl,hk2⟩;have HK2:=lh (HK1.out.trans hk2);clear hk2;go_upto_region 5 with fail;have hRB:Row (w2.alloc (.cells #[.int .u8 (k:Int),.slice A1 n1 c1,.slice A2 n2 c2,.slice A3 n3 c3] 237)) w2.heap.size 237 [.int .u8 (k:Int),.slice A1 n1 c1,.slice A2 n2 c2,.slice A3 n3 c3]:=row_alloc _ _ _;have hKB:Keep w2 (w2.alloc (.cells #[.int .u8 (k:Int),.slice A1 n1 c1,.slice A2 n2 c2,.slice A3 n3 c3] 237)):=(by repeat first|exact kp0|apply kp1|apply kp2|apply kp3|apply kp4);generalize w2.alloc (.cells #[.int .u8 (k:Int),.slice A1 n1 c1,.slice A2 n2 c2,.slice A3 n3 c3] 237)=w3 at hRB hKB ⊢;generalize w2.heap.size=g at hRB ⊢;have HK3:=lh (HK2.out.trans hKB);have HRB:=lh hRB;have z0:=hRB.cell 0 _ rfl;have z1:=hRB.cell 1 _ rfl;have z2:=hRB.cell 2 _ rfl;have z3:=hRB.cell 3 _ rfl;have hgs:=hRB.lt;clear hRB hKB
 obtain ⟨kd,hkd⟩:∃ kd,kd=c.kind:=⟨_,rfl⟩;have HRK:=lh (show runK c=if kd=3 then 1 else 0 by unfold runK;rw [hkd]);rw [← hkd] at HKD;clear hkd;go_wp2_with (go_at_call 170;refine hold ?_);refine unhold ?_;refine (HKD.out _ HK3.out).mono ?_;rintro e w4 ⟨rfl,hk4⟩;have HK4:=lh (HK3.out.trans hk4);have HRB4:=lh (HRB.out.keep hk4);clear hk4 z0 z1 z2 z3 hgs HRB;have z0:=HRB4.out.cell 0 _ rfl;have z1:=HRB4.out.cell 1 _ rfl;have z2:=HRB4.out.cell 2 _ rfl;have z3:=HRB4.out.cell 3 _ rfl;have hgs:=HRB4.out.lt
 by_cases h3:kd=3
 ·rw [if_pos h3] at HRK;have e1:((kd:Int)==3)=true:=by simp;omega
  have e2:(kd:Int)=3:=by omega
  clear h3;go_wp2_with (at_builtin;refine hold ?_);refine unhold ?_;have HO5:OwnCm (w4.alloc (.cells #[.int .u8 (k:Int),.slice A1 n1 c1,.slice A2 n2 c2,.slice A3 n3 c3] 237)) w.heap.size (.slice none 0 0) ([]:List Cm):=Own.nil_ _ _ _ _ _;refine wpList_app elt_con cm_len cm_one rfl (.tmp 24) (.tmp 26) rfl (ys:=[(⟨k,A1,n1,c1,A2,n2,c2,A3,n3,c3⟩:Cm)]) HO5 rfl rfl (sl_one _ (by omega) (by omega) (cm_at (by simp [go_sem]) (by simp [go_sem]) (by simp [go_sem]) (by simp [go_sem]))) (by simp) (by have:=HK4.out.size;simp;omega) ?_;intro v1 w5 hown5 hg5 _;have HK5:=lh (show Keep w w5 from Own.kept HO5 hg5 (HK4.out.alloc _) (Nat.le_refl _));have HO6:=lh hown5;clear hown5 hg5 HO5 z0 z1 z2 z3 hgs;go_wp2;rw [rounds_succ];go_wp2;exact bodyPost_ret (v:=.tuple #[v1,.int .i64 1]) (by simp [results,Tryz.results169,go_sem]) rfl ⟨_,by rw [HRK.out];rfl,HO6.out,HK5.out⟩
 ·rw [if_neg h3] at HRK;have e1:((kd:Int)==3)=false:=by simp;omega
  have e2:¬ (kd:Int)=3:=by omega
  clear h3;go_wp2_with (at_builtin;refine hold ?_);refine unhold ?_;have HO5:OwnCm (w4.alloc (.cells #[.int .u8 (k:Int),.slice A1 n1 c1,.slice A2 n2 c2,.slice A3 n3 c3] 237)) w.heap.size (.slice none 0 0) ([]:List Cm):=Own.nil_ _ _ _ _ _;refine wpList_app elt_con cm_len cm_one rfl (.tmp 24) (.tmp 26) rfl (ys:=[(⟨k,A1,n1,c1,A2,n2,c2,A3,n3,c3⟩:Cm)]) HO5 rfl rfl (sl_one _ (by omega) (by omega) (cm_at (by simp [go_sem]) (by simp [go_sem]) (by simp [go_sem]) (by simp [go_sem]))) (by simp) (by have:=HK4.out.size;simp;omega) ?_;intro v1 w5 hown5 hg5 _;have HK5:=lh (show Keep w w5 from Own.kept HO5 hg5 (HK4.out.alloc _) (Nat.le_refl _));have HO6:=lh hown5;clear hown5 hg5 HO5 z0 z1 z2 z3 hgs;go_wp2;rw [rounds_succ];go_wp2;exact bodyPost_ret (v:=.tuple #[v1,.int .i64 0]) (by simp [results,Tryz.results169,go_sem]) rfl ⟨_,by rw [HRK.out];rfl,HO6.out,HK5.out⟩
theorem head_zero(w:World):Calls Tryz.prog 173 #[.int .i64 0,.int .i64 0] w fun e w'=>e=.returned (.int .i64 8)∧Keep w w':=by
 go_enter Tryz.func173,Tryz.ntmps173;go_wp2;go_ret;exact ⟨rfl,Keep.refl _⟩
theorem head_one(w:World):Calls Tryz.prog 173 #[.int .i64 1,.int .i64 0] w fun e w'=>e=.returned (.int .i64 16)∧Keep w w':=by
 go_enter Tryz.func173,Tryz.ntmps173;go_wp2;go_ret;exact ⟨rfl,Keep.refl _⟩
end Go.Proofs.YtpkocnpamcchcaaGreatDoor
