/- Parts of the proof. -/
import Derived.Test.YtpkocnpamcchcaaGreatDoorK34
set_option maxRecDepth 100000
set_option maxHeartbeats 4000000
set_option linter.unusedSimpArgs false
set_option linter.unusedVariables false
set_option linter.unnecessarySimpa false
namespace Go.Proofs.YtpkocnpamcchcaaGreatDoor
open Go.RowKit Go.Zone Go.Shelf
attribute [local go_sem] zone stepZ fill lookFs goes goesUpon dropFs cell_gro frozen_gro size_gro lt_add drew_gro tape_gro keep_refl
attribute [local go_sem] lt_add2 lt_add3 lt_add4 lt_add5 lt_add6 lt_add7 lt_add8 lt_add9 lt_add10 lt_add11 lt_add12
structure Ir where
 A:Option Addr
 c:Nat
 xs:List Int
def Ir.v(r:Ir):Value:=.slice r.A r.xs.length r.c
def Ir.cells(r:Ir):List Value:=[.slice r.A r.xs.length r.c]
def IrAt(w:World)(L:List Ir):Prop:=∀ r∈L,Sl w 1 i64V r.A r.c r.xs
theorem IrAt.keep{w w':World}{L:List Ir}(h:IrAt w L)(hk:Keep w w'):IrAt w' L:=fun r hr=>(h r hr).keep hk
def intv(x:Int):Value:=.int .i64 x
theorem idxI_no(A:Option Addr)(c:Nat)(xs:List Int)(g:Nat)(lb:Array Value)(p:Int→Bool)(w:World)(eg:∀ args w,(callFunc g args).run Tryz.prog w=.ok (.enter g args) w)
 (h:Sl w 1 i64V A c xs) (hp:PredOk Tryz.prog g lb intv p w) (hno:∀ x∈xs,p x=false) :
 Calls Tryz.prog 178 #[.slice A xs.length c,.func (.func g) #[] lb] w fun e w'=>e=.returned (.int .i64 (-1))∧Keep w w':=by
 have hl:=sl_len h;have HP:=lh hp;clear hp;have HNO:=lh hno;clear hno;go_enter Tryz.func178,Tryz.ntmps178;go_wp2;go_loopw [5,8] (fun _ i wr=>∃ k:Nat,k≤xs.length∧i=.int .i64 k∧Hid (Keep w wr)) (fun _ i _=>xs.length-(intOf i).toNat)
 case atStart=>exact ⟨0,Nat.zero_le _,rfl,Keep.refl _⟩
 case round =>
  obtain ⟨k,hk,rfl,HK⟩:=hrel
  by_cases hlt:k<xs.length
  ·have hcall:=HP.out wr xs[k] HK.out;rw [HNO.out xs[k] (List.getElem_mem hlt)] at hcall;obtain ⟨b,off,rfl,hc⟩:=(h.keep HK.out).at_ k hlt;have h0:=hc 0 _ rfl;have hb:=World.block_lt_of_cell? wr _ h0;simp only at hb;rw [Nat.mul_one,Nat.add_zero] at h0;have HC:=lh hcall;clear h hcall hc;go_wp2_with (go_at_fn g;refine HC.out.mono ?_;rintro e w' ⟨rfl,hk'⟩);go_roundw
   case rel=>exact ⟨k+1,by omega,by go_num,HK.out.trans hk'⟩
   case measure=>simp [intOf];omega
  ·go_wp2;go_ret;exact ⟨rfl,HK.out⟩
theorem contI_no(A:Option Addr)(c:Nat)(xs:List Int)(g:Nat)(lb:Array Value)(p:Int→Bool)(w:World)(eg:∀ args w,(callFunc g args).run Tryz.prog w=.ok (.enter g args) w)
 (h:Sl w 1 i64V A c xs) (hp:PredOk Tryz.prog g lb intv p w) (hno:∀ x∈xs,p x=false) :
 Calls Tryz.prog 135 #[.slice A xs.length c,.func (.func g) #[] lb] w fun e w'=>e=.returned (.bool false)∧Keep w w':=by
 have HP:=lh hp;clear hp;have HH:=lh h;clear h;have HNO:=lh hno;clear hno;go_enter Tryz.func135,Tryz.ntmps135;go_wp2_with (go_at_call 178;refine (idxI_no A c xs g lb p _ eg HH.out HP.out HNO.out).mono ?_;rintro e w' ⟨rfl,hk⟩;(first|obtain ⟨p,rfl⟩:=Zone.gro_of_gro _ _ hk|obtain ⟨p,rfl⟩:=Zone.gro_of_below _ hk);clear hk);go_ret;exact ⟨rfl,(by repeat first|exact kp0|apply kp1|apply kp2|apply kp3|apply kp4)⟩
theorem idxR_no(A:Option Addr)(c:Nat)(xs:List Ir)(g:Nat)(lb:Array Value)(p:Ir→Bool)(w:World)(eg:∀ args w,(callFunc g args).run Tryz.prog w=.ok (.enter g args) w)
 (h:Sl w 1 Ir.cells A c xs) (hp:PredOk Tryz.prog g lb Ir.v p w) (hno:∀ x∈xs,p x=false) :
 Calls Tryz.prog 179 #[.slice A xs.length c,.func (.func g) #[] lb] w fun e w'=>e=.returned (.int .i64 (-1))∧Keep w w':=by
 have hl:=sl_len h;have HP:=lh hp;clear hp;have HNO:=lh hno;clear hno;go_enter Tryz.func179,Tryz.ntmps179;go_wp2;go_loopw [5,8] (fun _ i wr=>∃ k:Nat,k≤xs.length∧i=.int .i64 k∧Hid (Keep w wr)) (fun _ i _=>xs.length-(intOf i).toNat)
 case atStart=>exact ⟨0,Nat.zero_le _,rfl,Keep.refl _⟩
 case round =>
  obtain ⟨k,hk,rfl,HK⟩:=hrel
  by_cases hlt:k<xs.length
  ·have hcall:=HP.out wr xs[k] HK.out;rw [HNO.out xs[k] (List.getElem_mem hlt)] at hcall;obtain ⟨b,off,rfl,hc⟩:=(h.keep HK.out).at_ k hlt;have h0:=hc 0 _ rfl;have hb:=World.block_lt_of_cell? wr _ h0;simp only at hb;rw [Nat.mul_one,Nat.add_zero] at h0;have HC:=lh hcall;clear h hcall hc;go_wp2_with (go_at_fn g;refine HC.out.mono ?_;rintro e w' ⟨rfl,hk'⟩);go_roundw
   case rel=>exact ⟨k+1,by omega,by go_num,HK.out.trans hk'⟩
   case measure=>simp [intOf];omega
  ·go_wp2;go_ret;exact ⟨rfl,HK.out⟩
theorem contR_no(A:Option Addr)(c:Nat)(xs:List Ir)(g:Nat)(lb:Array Value)(p:Ir→Bool)(w:World)(eg:∀ args w,(callFunc g args).run Tryz.prog w=.ok (.enter g args) w)
 (h:Sl w 1 Ir.cells A c xs) (hp:PredOk Tryz.prog g lb Ir.v p w) (hno:∀ x∈xs,p x=false) :
 Calls Tryz.prog 136 #[.slice A xs.length c,.func (.func g) #[] lb] w fun e w'=>e=.returned (.bool false)∧Keep w w':=by
 have HP:=lh hp;clear hp;have HH:=lh h;clear h;have HNO:=lh hno;clear hno;go_enter Tryz.func136,Tryz.ntmps136;go_wp2_with (go_at_call 179;refine (idxR_no A c xs g lb p _ eg HH.out HP.out HNO.out).mono ?_;rintro e w' ⟨rfl,hk⟩;(first|obtain ⟨p,rfl⟩:=Zone.gro_of_gro _ _ hk|obtain ⟨p,rfl⟩:=Zone.gro_of_below _ hk);clear hk);go_ret;exact ⟨rfl,(by repeat first|exact kp0|apply kp1|apply kp2|apply kp3|apply kp4)⟩
theorem may1_any(x m:Int)(b1 b2 bm:Nat)(off j c n:Nat)(A:Option Addr)(w:World)(hA:A=some ⟨bm,off,none⟩)(h1:w.cell? ⟨b1,0,none⟩=some (.slice A n c))(h2:w.cell? ⟨b2,0,none⟩=some (.int .i64 j))(hj:j<n)(h3:w.cell? ⟨bm,off+j,none⟩=some (.int .i64 m)) :
 Calls Tryz.prog 134 #[.int .i64 x,.pointer (some ⟨b1,0,none⟩),.pointer (some ⟨b2,0,none⟩)] w fun e w'=>e=.returned (.bool (decide (x<0)||decide (m≤x)))∧w=w':=by
 have hb1:=block_lt_of_cell h1;have hb2:=block_lt_of_cell h2;have hb3:=block_lt_of_cell h3;simp only at hb1 hb2 hb3;subst hA
 by_cases hx:x<0
 ·have hx1:decide (x<0)=true:=decide_eq_true hx;go_enter Tryz.func134,Tryz.ntmps134;go_wp2;go_ret;exact ⟨by simp [hx],rfl⟩
 ·have hx1:decide (x<0)=false:=decide_eq_false hx;go_enter Tryz.func134,Tryz.ntmps134;go_wp2;go_ret;exact ⟨by simp [hx],rfl⟩
theorem may2_any(r:Ir)(n:Int)(b:Nat)(w:World)(h:w.cell? ⟨b,0,none⟩=some (.int .i64 n)) :
 Calls Tryz.prog 137 #[r.v,.pointer (some ⟨b,0,none⟩)] w fun e w'=>e=.returned (.bool ((r.xs.length:Int) != n))∧w=w':=by
 have hb:=block_lt_of_cell h;simp only at hb;obtain ⟨A,c,xs⟩:=r;show Calls Tryz.prog 137 #[.slice A xs.length c,.pointer (some ⟨b,0,none⟩)] w fun e w'=>e=.returned (.bool ((xs.length:Int) != n))∧w=w';go_enter Tryz.func137,Tryz.ntmps137;go_wp2;go_ret;exact ⟨rfl,rfl⟩
structure SplitOk(sp:List Ir)(many:List Int)(R:Nat):Prop where
 lo:1≤sp.length
 hi:sp.length≤8
 ml:many.length=sp.length
 row:∀ r∈sp,r.xs.length=R
 id:∀ j (h:j<sp.length) (h2:j<many.length),0≤many[j]∧many[j]≤16777216∧∀ x∈sp[j].xs,0≤x∧x<many[j]
theorem starmay_any(A B C:Option Addr)(a b c leaf R:Nat)(sp mt:List Ir)(many:List Int)(w:World)(hS:Sl w 1 Ir.cells A a sp)(hSa:IrAt w sp)(hB:Sl w 1 i64V B b many)(hM:Sl w 1 Ir.cells C c mt)(hok:SplitOk sp many R)(hmt:mt.length≤256)(hl1:1≤leaf)(hl2:leaf≤1000000)(hR:R≤1000000)(hmr:∀ r∈mt,r.xs.length=R) :
 Calls Tryz.prog 83 #[.slice A sp.length a,.slice B many.length b,.slice C mt.length c,.int .i64 leaf] w fun e w'=>e=.returned (.bool true)∧Keep w w':=by
 have HS:=lh hS;have HSA:=lh hSa;have HB:=lh hB;have HM:=lh hM;have HOK:=lh hok;have HMR:=lh hmr;obtain ⟨n,hn⟩:∃ n,n=sp.length:=⟨_,rfl⟩;have hn1:=hok.lo;have hn8:=hok.hi;rw [hok.ml];rw [← hn] at hn1 hn8 ⊢;have HN:=lh hn;have HMN:=lh (hok.ml.trans hn.symm);obtain ⟨bs,os,hAe,hc0⟩:=hS.at_ 0 (by omega);have s0:=hc0 0 _ rfl;have hrr:(sp[0]'(by omega)).xs.length=R:=hok.row _ (List.getElem_mem _);rw [hrr] at s0;have hbs:=block_lt_of_cell s0;simp only [Nat.zero_mul,Nat.add_zero] at s0 hbs;generalize (sp[0]'(by omega)).A=A0 at s0;generalize (sp[0]'(by omega)).c=c0 at s0;clear hS hSa hB hM hok hmr hn hc0 hrr;subst hAe;generalize hmn:mt.length=nm at *;have d1:¬ ((n:Int)<1):=by omega
 have d2:¬ ((8:Int)<(n:Int)):=by omega
 have d3:¬ ((256:Int)<(nm:Int)):=by omega
 have d4:¬ ((leaf:Int)<1):=by omega
 have d5:¬ ((1000000:Int)<(leaf:Int)):=by omega
 go_enter Tryz.func83,Tryz.ntmps83;go_wp2;have hk2:Keep w ((w.alloc (.cells #[.slice B n b] 24)).alloc (.cells #[.int .i64 R] 3)):=(by repeat first|exact kp0|apply kp1|apply kp2|apply kp3|apply kp4);have b1:((w.alloc (.cells #[.slice B n b] 24)).alloc (.cells #[.int .i64 R] 3)).cell? ⟨w.heap.size,0,none⟩=some (.slice B n b):=by simp [go_sem]
 have b2:((w.alloc (.cells #[.slice B n b] 24)).alloc (.cells #[.int .i64 R] 3)).cell? ⟨w.heap.size+1,0,none⟩=some (.int .i64 R):=by simp [go_sem]
 generalize (w.alloc (.cells #[.slice B n b] 24)).alloc (.cells #[.int .i64 R] 3)=w2 at hk2 b1 b2 ⊢;generalize w.heap.size=g1 at b1 b2 ⊢;generalize g1+1=g2 at b2 ⊢;have HK2:=lh hk2;have HX1:=lh b1;have HX2:=lh b2;have hg1:=block_lt_of_cell b1;have hg2:=block_lt_of_cell b2;simp only at hg1 hg2;clear hk2 b1 b2 s0 d1 d2 d3 d4 d5 hbs;go_loopw [47] (fun vi wr=>∃ j:Nat,j≤n∧vi=.int .i64 j∧Hid (Keep w2 wr)) (fun vi _=>n-(intOf vi).toNat)
 case atStart=>exact ⟨0,Nat.zero_le _,rfl,Keep.refl _⟩
 case round =>
  obtain ⟨j,hj,rfl,HK⟩:=hrel;have x1:=(HK.out.cell (p:=⟨g1,0,none⟩) hg1).trans HX1.out;have x2:=(HK.out.cell (p:=⟨g2,0,none⟩) hg2).trans HX2.out;have hg1':=Nat.lt_of_lt_of_le hg1 HK.out.size;have hg2':=Nat.lt_of_lt_of_le hg2 HK.out.size;have hke:=HK2.out.trans HK.out
  by_cases hlt:j<n
  ·have hjs:j<sp.length:=by have:=HN.out;omega
   have hjm:j<many.length:=by have:=HMN.out;omega
   obtain ⟨bs',os',hA',hc⟩:=(HS.out.keep hke).at_ j hjs;simp only [Option.some.injEq,Addr.mk.injEq,and_true] at hA';obtain ⟨rfl,rfl⟩:=hA';have s0:=hc 0 _ rfl;have hrr:sp[j].xs.length=R:=HOK.out.row _ (List.getElem_mem _);rw [hrr,Nat.mul_one,Nat.add_zero] at s0;have hbs:=block_lt_of_cell s0;simp only at hbs;obtain ⟨bm,om,hB',hbm,m0⟩:=sl_i64 (HB.out.keep hke) j hjm;obtain ⟨i0,i1,i2⟩:=HOK.out.id j hjs hjm;have hslx:=(HSA.out sp[j] (List.getElem_mem _)).keep hke;have hno:∀ x∈sp[j].xs,(decide (x<0)||decide (many[j]≤x))=false:=fun x hx=>by
    have:=i2 x hx;simp only [Bool.or_eq_false_iff,decide_eq_false_iff_not];omega
   have HCT:=lh (fun (W:World) (hW:Keep wr W) (lb:Array Value) (hp:PredOk Tryz.prog 134 lb intv (fun x=>decide (x<0)||decide (many[j]≤x)) W)=>contI_no sp[j].A sp[j].c sp[j].xs 134 lb _ W (enters_of Tryz.func134 (by kernel_rfl) rfl) (hslx.keep hW) hp hno);rw [hrr] at HCT;have HMC:=lh m0;generalize sp[j].A=Aj at s0 HCT;generalize sp[j].c=cj at s0 HCT;generalize many[j]=mj at m0 i0 i1 HCT HMC;subst hB';have e1:¬ (mj<0):=by omega
   have e2:¬ ((16777216:Int)<mj):=by omega
   clear hc hrr hslx hno i2 hke hjs hjm i0 i1;go_wp2_with (go_at_call 135;refine hold ?_);refine unhold ?_;have hka:Keep wr (wr.alloc (.cells #[.int .i64 j] 3)):=Keep.alloc (Keep.refl _) _;have hcj:(wr.alloc (.cells #[.int .i64 j] 3)).cell? ⟨wr.heap.size,0,none⟩=some (.int .i64 j):=by simp [go_sem]
   have hpd:PredOk Tryz.prog 134 #[.pointer (some ⟨g1,0,none⟩),.pointer (some ⟨wr.heap.size,0,none⟩)] intv (fun x=>decide (x<0)||decide (mj≤x)) (wr.alloc (.cells #[.int .i64 j] 3)):=fun W x hW=>by
    have hkw:=hka.trans hW;refine (may1_any x mj g1 wr.heap.size bm om j b n _ W rfl ((hkw.cell (p:=⟨g1,0,none⟩) hg1').trans x1) ((hW.cell (p:=⟨wr.heap.size,0,none⟩) (block_lt_of_cell hcj)).trans hcj) hlt ((hkw.cell (p:=⟨bm,om+j,none⟩) hbm).trans HMC.out)).mono ?_;rintro e w' ⟨rfl,rfl⟩;exact ⟨rfl,Keep.refl _⟩
   have HC9:=lh (HCT.out _ hka _ hpd);have HKA:=lh hka;clear hka hcj hpd HCT;refine HC9.out.mono ?_;rintro e w3 ⟨rfl,hk3⟩;have HK3:=lh (HKA.out.trans hk3);clear hk3 HC9 m0 s0 x1 x2;go_wp2;go_roundw
   case rel=>exact ⟨j+1,by omega,by go_num,HK.out.trans HK3.out⟩
   case measure=>simp [intOf];omega
  ·have hpd:PredOk Tryz.prog 137 #[.pointer (some ⟨g2,0,none⟩)] Ir.v (fun r=>(r.xs.length:Int) != (R:Int)) wr:=fun W x hW=>by
    refine (may2_any x R g2 W ((hW.cell (p:=⟨g2,0,none⟩) hg2').trans x2)).mono ?_;rintro e w' ⟨rfl,rfl⟩;exact ⟨rfl,Keep.refl _⟩
   have hno:∀ r∈mt,((r.xs.length:Int) != (R:Int))=false:=fun r hr=>by
    have:=HMR.out r hr;simp [this]
   have hct:=contR_no C c mt 137 #[.pointer (some ⟨g2,0,none⟩)] _ wr (enters_of Tryz.func137 (by kernel_rfl) rfl) (HM.out.keep hke) hpd hno;rw [hmn] at hct;have HCT:=lh hct;have HKE:=lh hke;clear hpd hno hct hke hmn;go_wp2_with (go_at_call 136;refine hold ?_);refine unhold ?_;refine HCT.out.mono ?_;rintro e w3 ⟨rfl,hk3⟩;have HK3:=lh hk3;clear hk3 x1 x2;go_wp2;go_ret;exact ⟨rfl,HKE.out.trans HK3.out⟩
theorem vssf_nil(fv:Value)(w:World):Calls Tryz.prog 138 #[.slice none 0 0,fv] w fun e w'=>e=.returned (.tuple #[])∧Keep w w':=by
 have hins:∀ W,Calls Tryz.prog 220 #[.slice none 0 0,.int .i64 0,.int .i64 0,fv] W fun e w'=>e=.returned (.tuple #[])∧Keep W w':=fun W=>by
  go_enter Tryz.func220,Tryz.ntmps220;go_wp2;refine wp_loop_rounds 1 ?_;rw [rounds_succ];go_wp2;go_end0;exact ⟨rfl,(by repeat first|exact kp0|apply kp1|apply kp2|apply kp3|apply kp4)⟩
 have HI:=lh hins;have hst:∀ W,Calls Tryz.prog 180 #[.slice none 0 0,.int .i64 0,fv] W fun e w'=>e=.returned (.tuple #[])∧Keep W w':=fun W=>by
  go_enter Tryz.func180,Tryz.ntmps180;go_wp2;refine wp_loop_rounds 1 ?_;rw [rounds_succ];go_wp2_with (go_at_call 220;refine hold ?_);refine unhold ?_;refine (HI.out _).mono ?_;rintro e w1 ⟨rfl,hk1⟩;have HK1:=lh hk1;clear hk1;go_wp2;refine wp_loop_rounds 1 ?_;rw [rounds_succ];go_wp2;go_end0;exact ⟨rfl,HK1.out⟩
 have HST:=lh hst;clear hins hst HI;go_enter Tryz.func138,Tryz.ntmps138;go_wp2_with (go_at_call 180;refine hold ?_);refine unhold ?_;refine (HST.out _).mono ?_;rintro e w1 ⟨rfl,hk1⟩;have HK1:=lh hk1;clear hk1;go_wp2;go_end0;exact ⟨rfl,HK1.out⟩
theorem tog_nil(w:World):Calls Tryz.prog 84 #[.slice none 0 0] w fun e w'=>e=.returned (.slice none 0 0)∧Keep w w':=by
 have HS:=lh (vssf_nil (.func (.func 139) #[] #[]) w);go_enter Tryz.func84,Tryz.ntmps84;go_wp2_with (go_at_call 138;refine hold ?_);refine unhold ?_;refine HS.out.mono ?_;rintro e w1 ⟨rfl,hk1⟩;have HK1:=lh hk1;clear hk1;go_wp2;refine wp_loop_rounds 1 ?_;rw [rounds_succ];go_wp2;go_ret;exact ⟨rfl,HK1.out⟩
def rowsJ(sp:List Ir)(i j:Nat):List Int:=((sp.take j).map fun r=>r.xs.getD i 0)++List.replicate (8-j) 0
theorem rowsJ_len(sp:List Ir)(i j:Nat)(hj:j≤sp.length)(h8:j≤8):(rowsJ sp i j).length=8:=by
 simp [rowsJ];omega
theorem rowsJ_set(sp:List Ir)(i j:Nat)(hj:j<sp.length)(h8:j<8):(rowsJ sp i j).set j (sp[j].xs.getD i 0)=rowsJ sp i (j+1):=by
 unfold rowsJ;rw [List.set_append_right _ _ (by simp;omega),List.take_succ_eq_append_getElem hj,show 8-j=(8-(j+1))+1 by omega,List.replicate_succ];simp only [List.length_map,List.length_take,List.map_append,List.map_cons,List.map_nil];rw [show j-min j sp.length=0 by omega,List.set_cons_zero,List.append_assoc];rfl
def sumJ(mt:List Ir)(i:Nat):List SM:=mt.map fun r=>(r.xs.getD i 0,r.xs.getD i 0,r.xs.getD i 0)
def recI(sp mt:List Ir)(i:Nat):Star.SR:=⟨rowsJ sp i sp.length,1,sumJ mt i⟩
def srcF(sp mt:List Ir)(R:Nat):List Star.SR:=(List.range R).map (recI sp mt)
def cellsOf(ids:List Int)(n:Int)(v:Value):List Value:=(ids.map fun x=>Value.int .i64 x)++[.int .i64 n,v]
theorem cellsOf_set(ids:List Int)(n:Int)(v:Value)(j:Nat)(x:Int)(hj:j<ids.length):(cellsOf ids n v).set j (.int .i64 x)=cellsOf (ids.set j x) n v:=by
 unfold cellsOf;rw [List.set_append_left _ _ (by simpa using hj),List.map_set]
theorem cellsOf_put(ids:List Int)(n:Int)(v u:Value)(h:ids.length=8):(cellsOf ids n v).set 9 u=cellsOf ids n u:=by
 unfold cellsOf;rw [List.set_append_right _ _ (by simp;omega)];simp [h]
theorem rc_of8:∀ (ids:List Int),ids.length=8→∀ (n:Int) (A:Option Addr) (l c:Nat),∃ r:Rc,r.ids=ids∧r.n=n∧r.A=A∧r.l=l∧r.c=c∧r.cells=cellsOf ids n (.slice A l c)
 | [a,b,c',d,e,f,x,y],_,n,A,l,c=>⟨⟨a,b,c',d,e,f,x,y,n,A,l,c⟩,rfl,rfl,rfl,rfl,rfl,rfl⟩
end Go.Proofs.YtpkocnpamcchcaaGreatDoor
