/- Parts of the proof. -/
import Derived.Laws.ResultCell
import Derived.Test.YtpkocnpamcchcaaGreatDoorK21
set_option maxRecDepth 100000
set_option maxHeartbeats 4000000
set_option linter.unusedSimpArgs false
set_option linter.unusedVariables false
set_option linter.unnecessarySimpa false
namespace Go.Proofs.YtpkocnpamcchcaaGreatDoor
open Go.RowKit Go.Zone Go.Shelf
attribute [local go_sem] zone stepZ fill lookFs goes goesUpon dropFs cell_gro frozen_gro size_gro lt_add drew_gro tape_gro keep_refl
attribute [local go_sem] lt_add2 lt_add3 lt_add4 lt_add5 lt_add6 lt_add7 lt_add8 lt_add9 lt_add10 lt_add11 lt_add12
theorem own_sl1{α:Type}{w:World}{base k:Nat}{e:TypeId}{enc:α→List Value}{v:Value}{xs:List α}(h:Own w base e k enc v xs)(hk:∀ x,(enc x).length=k)(hl:xs.length≤1000000):∃ A c,v=.slice A xs.length c∧Sl w k enc A c xs:=h.sl hk (by omega)
theorem own_sl0{α:Type}{w:World}{base k c:Nat}{e:TypeId}{enc:α→List Value}{A:Option Addr}{xs:List α}(h:Own w base e k enc (.slice A xs.length c) xs)(hk:∀ x,(enc x).length=k)(hl:xs.length≤1000000):Sl w k enc A c xs:=by
 obtain ⟨A',c',he,hs⟩:=own_sl1 h hk hl;injection he with h1 _ h3;subst h1;subst h3;exact hs
theorem slw_of{w:World}{A:Option Addr}{c x:Nat}(h:OwnW w 0 (.slice A 1024 c) x):SlW w A c x:=by
 have h':Own w 0 47 1 u64V (.slice A (W0 x).length c) (W0 x):=by rw [W0_len];exact h
 exact own_sl0 h' u64_len (by rw [W0_len];decide)
inductive ConAt (w:World):Roa.Con→Value→Prop
 | arr (a:List Nat) (k:Nat) (A:Option Addr) (c:Nat) (hk:k=0∨k=1) (h:OwnU16 w 0 (.slice A a.length c) a):ConAt w (.arr a) (.agg #[.int .u8 k,.slice A a.length c,.slice none 0 0,.slice none 0 0])
 | wrd (x:Nat) (A:Option Addr) (c:Nat) (h:OwnW w 0 (.slice A 1024 c) x):ConAt w (.wrd x) (.agg #[.int .u8 2,.slice none 0 0,.slice A 1024 c,.slice none 0 0])
 | run (r:List Pr) (A:Option Addr) (c:Nat) (h:OwnRn w 0 (.slice A r.length c) r):ConAt w (.run r) (.agg #[.int .u8 3,.slice none 0 0,.slice none 0 0,.slice A r.length c])
theorem ConAt.keep{w w':World}{c:Roa.Con}{v:Value}(h:ConAt w c v)(hk:Keep w w'):ConAt w' c v:=by
 cases h with
 | arr a k A c hk' h=>exact .arr a k A c hk' (h.keep hk)
 | wrd x A c h=>exact .wrd x A c (h.keep hk)
 | run r A c h=>exact .run r A c (h.keep hk)
theorem kind_any{w:World}{c:Roa.Con}{v:Value}(h:ConAt w c v):Calls Tryz.prog 170 #[v] w fun e w'=>e=.returned (.int .u8 (c.kind:Nat))∧Keep w w':=by
 cases h with
 | arr a k A c hk h =>
   simp only [Roa.Con.kind];generalize a.length=n;have hm:max (k:Int) 1=1:=by omega
   clear h;go_enter Tryz.func170,Tryz.ntmps170;go_wp2;go_ret;exact ⟨rfl,(by repeat first|exact kp0|apply kp1|apply kp2|apply kp3|apply kp4)⟩
 | wrd x A c h =>
   simp only [Roa.Con.kind];clear h;go_enter Tryz.func170,Tryz.ntmps170;go_wp2;go_ret;exact ⟨rfl,(by repeat first|exact kp0|apply kp1|apply kp2|apply kp3|apply kp4)⟩
 | run r A c h =>
   simp only [Roa.Con.kind];generalize r.length=n;clear h;go_enter Tryz.func170,Tryz.ntmps170;go_wp2;go_ret;exact ⟨rfl,(by repeat first|exact kp0|apply kp1|apply kp2|apply kp3|apply kp4)⟩
theorem alen_any{w:World}{a:List Nat}{v:Value}(h:ConAt w (.arr a) v):Calls Tryz.prog 206 #[v] w fun e w'=>e=.returned (.int .i64 (a.length:Nat))∧Keep w w':=by
 cases h with
 | arr _ k A c hk h =>
   generalize a.length=n;clear h;go_enter Tryz.func206,Tryz.ntmps206;go_wp2;go_ret;exact ⟨rfl,(by repeat first|exact kp0|apply kp1|apply kp2|apply kp3|apply kp4)⟩
theorem wolen_any{w:World}{x:Nat}{v:Value}(h:ConAt w (.wrd x) v):Calls Tryz.prog 207 #[v] w fun e w'=>e=.returned (.int .i64 (popN x:Nat))∧Keep w w':=by
 cases h with
 | wrd _ A c h =>
   have HC:=lh (fun W (hW:Keep w W)=>wlen_any A c x W ((slw_of h).keep hW));generalize popN x=t at HC ⊢;clear h;go_enter Tryz.func207,Tryz.ntmps207;go_wp2_with (go_at_call 245;refine hold ?_);refine unhold ?_;refine (HC.out _ (by repeat first|exact kp0|apply kp1|apply kp2|apply kp3|apply kp4)).mono ?_;rintro e w1 ⟨rfl,hk1⟩;have HK1:=lh (Keep.trans (show Keep w _ from (by repeat first|exact kp0|apply kp1|apply kp2|apply kp3|apply kp4)) hk1);go_wp2;go_ret;exact ⟨rfl,HK1.out⟩
theorem rulen_any{w:World}{r:List Pr}{v:Value}(h:ConAt w (.run r) v)(hb:∀ p∈r,p.1+p.2+1≤64)(hl:r.length≤65536):Calls Tryz.prog 208 #[v] w fun e w'=>e=.returned (.int .i64 (((r.map fun p=>p.2+1).sum:Nat):Int))∧Keep w w':=by
 cases h with
 | run _ A c h =>
   have HC:=lh (fun W (hW:Keep w W)=>rlen_any A c r W ((own_sl0 h rn_len (by omega)).keep hW) hb hl);generalize (r.map fun p=>p.2+1).sum=t at HC ⊢;generalize r.length=n at HC ⊢;clear h hb hl;go_enter Tryz.func208,Tryz.ntmps208;go_wp2_with (go_at_call 246;refine hold ?_);refine unhold ?_;refine (HC.out _ (by repeat first|exact kp0|apply kp1|apply kp2|apply kp3|apply kp4)).mono ?_;rintro e w1 ⟨rfl,hk1⟩;have HK1:=lh (Keep.trans (show Keep w _ from (by repeat first|exact kp0|apply kp1|apply kp2|apply kp3|apply kp4)) hk1);go_wp2;go_ret;exact ⟨rfl,HK1.out⟩
def Fit(c:Roa.Con):Prop:=c.Good∧c.W≤2000
theorem clen_any{w:World}{c:Roa.Con}{v:Value}(h:ConAt w c v)(hf:Fit c):Calls Tryz.prog 172 #[v] w fun e w'=>e=.returned (.int .i64 (c.len TB:Nat))∧Keep w w':=by
 have HKD:=lh (fun W (hW:Keep w W)=>kind_any (h.keep hW));obtain ⟨hg,hw⟩:=hf
 cases h with
 | arr a k A c hk h =>
   have HL:=lh (fun W (hW:Keep w W)=>alen_any (.arr a k A c hk (h.keep hW)));simp only [Roa.Con.kind] at HKD;rw [show ((1:Nat):Int)=1 from rfl] at HKD;have hix:∀ W,(Instr.index 274 (.agg #[.nilFunc,.func (.func 206) #[] #[],.func (.func 207) #[] #[],.func (.func 208) #[] #[]]) (.int .u8 1)).run Tryz.prog W=.ok (.func (.func 206) #[] #[]) W:=fun W=>by kernel_rfl
   simp only [Roa.Con.len];generalize a.length=n at HKD HL ⊢;clear h hg hw;go_enter Tryz.func172,Tryz.ntmps172;go_wp2
   first|refine Zone.wp_region_all_gro (by kernel_rfl) (by kernel_rfl) ?_|refine Zone.wp_region_all (by kernel_rfl) (by kernel_rfl) ?_
   repeat
    refine Zone.wpZ_step (fun K hK=>?_);go_simp
    first
    | (refine hK _ _ ?_;clear hK K)
    | (apply Exists.intro
       refine ⟨fun p=>?_,hK _ _ ?_⟩
       (first|(go_at_call 170;exact Zone.zc (HKD.out _ (by repeat first|exact kp0|apply kp1|apply kp2|apply kp3|apply kp4)))|(go_at_call 206;exact Zone.zc (HL.out _ (by repeat first|exact kp0|apply kp1|apply kp2|apply kp3|apply kp4))))
       clear hK K)
   refine Zone.wpZ_nil ?_;intro p;simp only [Zone.fill];go_wp2;go_ret;exact ⟨rfl,(by repeat first|exact kp0|apply kp1|apply kp2|apply kp3|apply kp4)⟩
 | wrd x A c h =>
   have HL:=lh (fun W (hW:Keep w W)=>wolen_any (.wrd x A c (h.keep hW)));simp only [Roa.Con.kind] at HKD;rw [show ((2:Nat):Int)=2 from rfl] at HKD;have hix:∀ W,(Instr.index 274 (.agg #[.nilFunc,.func (.func 206) #[] #[],.func (.func 207) #[] #[],.func (.func 208) #[] #[]]) (.int .u8 2)).run Tryz.prog W=.ok (.func (.func 207) #[] #[]) W:=fun W=>by kernel_rfl
   simp only [Roa.Con.len,TB];generalize popN x=t at HL ⊢;clear h hg hw;go_enter Tryz.func172,Tryz.ntmps172;go_wp2
   first|refine Zone.wp_region_all_gro (by kernel_rfl) (by kernel_rfl) ?_|refine Zone.wp_region_all (by kernel_rfl) (by kernel_rfl) ?_
   repeat
    refine Zone.wpZ_step (fun K hK=>?_);go_simp
    first
    | (refine hK _ _ ?_;clear hK K)
    | (apply Exists.intro
       refine ⟨fun p=>?_,hK _ _ ?_⟩
       (first|(go_at_call 170;exact Zone.zc (HKD.out _ (by repeat first|exact kp0|apply kp1|apply kp2|apply kp3|apply kp4)))|(go_at_call 207;exact Zone.zc (HL.out _ (by repeat first|exact kp0|apply kp1|apply kp2|apply kp3|apply kp4))))
       clear hK K)
   refine Zone.wpZ_nil ?_;intro p;simp only [Zone.fill];go_wp2;go_ret;exact ⟨rfl,(by repeat first|exact kp0|apply kp1|apply kp2|apply kp3|apply kp4)⟩
 | run r A c h =>
   have HL:=lh (fun W (hW:Keep w W)=>rulen_any (.run r A c (h.keep hW)) hg (by simp only [Roa.Con.W] at hw;omega));simp only [Roa.Con.kind] at HKD;rw [show ((3:Nat):Int)=3 from rfl] at HKD;have hix:∀ W,(Instr.index 274 (.agg #[.nilFunc,.func (.func 206) #[] #[],.func (.func 207) #[] #[],.func (.func 208) #[] #[]]) (.int .u8 3)).run Tryz.prog W=.ok (.func (.func 208) #[] #[]) W:=fun W=>by kernel_rfl
   simp only [Roa.Con.len];generalize (r.map fun p=>p.2+1).sum=t at HL ⊢;generalize r.length=n at HKD HL ⊢;clear h hg hw;go_enter Tryz.func172,Tryz.ntmps172;go_wp2
   first|refine Zone.wp_region_all_gro (by kernel_rfl) (by kernel_rfl) ?_|refine Zone.wp_region_all (by kernel_rfl) (by kernel_rfl) ?_
   repeat
    refine Zone.wpZ_step (fun K hK=>?_);go_simp
    first
    | (refine hK _ _ ?_;clear hK K)
    | (apply Exists.intro
       refine ⟨fun p=>?_,hK _ _ ?_⟩
       (first|(go_at_call 170;exact Zone.zc (HKD.out _ (by repeat first|exact kp0|apply kp1|apply kp2|apply kp3|apply kp4)))|(go_at_call 208;exact Zone.zc (HL.out _ (by repeat first|exact kp0|apply kp1|apply kp2|apply kp3|apply kp4))))
       clear hK K)
   refine Zone.wpZ_nil ?_;intro p;simp only [Zone.fill];go_wp2;go_ret;exact ⟨rfl,(by repeat first|exact kp0|apply kp1|apply kp2|apply kp3|apply kp4)⟩
theorem many_any{w:World}{c:Roa.Con}{v:Value}(h:ConAt w c v)(hf:Fit c):Calls Tryz.prog 243 #[v] w fun e w'=>e=.returned (.int .i64 (c.many TB:Nat))∧Keep w w':=by
 obtain ⟨hg,hw⟩:=hf
 cases h with
 | arr a k A c hk h =>
   have HL:=lh (fun W (hW:Keep w W)=>aruns_any A c a W ((own_sl0 h u16_len (by simp only [Roa.Con.W] at hw;omega)).keep hW) hg (by simp only [Roa.Con.W] at hw;omega));simp only [Roa.Con.many];generalize Roa.arrRuns a a.length=t at HL ⊢;generalize a.length=n at HL ⊢;have e2:((k:Int)==2)=false:=by simp;omega
   have e3:((k:Int)==3)=false:=by simp;omega
   have e4:¬ (k:Int)=2:=by omega
   have e5:¬ (k:Int)=3:=by omega
   clear h hg hw hk;go_enter Tryz.func243,Tryz.ntmps243;go_wp2_with (go_at_call 273;refine hold ?_);refine unhold ?_;refine (HL.out _ (by repeat first|exact kp0|apply kp1|apply kp2|apply kp3|apply kp4)).mono ?_;rintro e w1 ⟨rfl,hk1⟩;have HK1:=lh (Keep.trans (show Keep w _ from (by repeat first|exact kp0|apply kp1|apply kp2|apply kp3|apply kp4)) hk1);go_wp2;go_ret;exact ⟨rfl,HK1.out⟩
 | wrd x A c h =>
   have HL:=lh (fun W (hW:Keep w W)=>wruns_any A c x W hg ((slw_of h).keep hW));simp only [Roa.Con.many,TB];generalize popN (x &&& (18446744073709551615-x*2%18446744073709551616))=t at HL ⊢;clear h hg hw;go_enter Tryz.func243,Tryz.ntmps243;go_wp2_with (go_at_call 272;refine hold ?_);refine unhold ?_;refine (HL.out _ (by repeat first|exact kp0|apply kp1|apply kp2|apply kp3|apply kp4)).mono ?_;rintro e w1 ⟨rfl,hk1⟩;have HK1:=lh (Keep.trans (show Keep w _ from (by repeat first|exact kp0|apply kp1|apply kp2|apply kp3|apply kp4)) hk1);go_wp2;go_ret;exact ⟨rfl,HK1.out⟩
 | run r A c h =>
   simp only [Roa.Con.many];generalize r.length=n;clear h hg hw;go_enter Tryz.func243,Tryz.ntmps243;go_wp2;go_ret;exact ⟨rfl,(by repeat first|exact kp0|apply kp1|apply kp2|apply kp3|apply kp4)⟩
theorem carr_any{w:World}{c:Roa.Con}{v:Value}(h:ConAt w c v)(hf:Fit c)(htab:Tab w):Calls Tryz.prog 211 #[v] w fun e w'=>∃ u,e=.returned u∧OwnU16 w' w.heap.size u (c.list TB)∧Keep w w':=by
 obtain ⟨hg,hw⟩:=hf;have HT:=lh htab
 cases h with
 | arr a k A c hk h =>
   have HL:=lh (fun W (hW:Keep w W)=>cloneu16_any A c a W ((own_sl0 h u16_len (by simp only [Roa.Con.W] at hw;omega)).keep hW) (by simp only [Roa.Con.W] at hw;omega));simp only [Roa.Con.list];generalize hn:a.length=n at HL ⊢;have e2:((k:Int)==2)=false:=by simp;omega
   have e3:((k:Int)==3)=false:=by simp;omega
   have e4:¬ (k:Int)=2:=by omega
   have e5:¬ (k:Int)=3:=by omega
   clear h hg hw hk hn;go_enter Tryz.func211,Tryz.ntmps211;go_wp2_with (go_at_call 205;refine hold ?_);refine unhold ?_;refine (HL.out _ (by repeat first|exact kp0|apply kp1|apply kp2|apply kp3|apply kp4)).mono ?_;rintro e w1 ⟨A',c',rfl,ho,hk1⟩;have HO1:=lh (ho.base_mono (show w.heap.size≤_ by simp));have HK1:=lh (Keep.trans (show Keep w _ from (by repeat first|exact kp0|apply kp1|apply kp2|apply kp3|apply kp4)) hk1);clear ho hk1;go_wp2;go_ret;exact ⟨_,rfl,HO1.out,HK1.out⟩
 | wrd x A c h =>
   have HL:=lh (fun W (hW:Keep w W)=>wlist_any A c x W hg ((slw_of h).keep hW) (HT.out.keep hW));simp only [Roa.Con.list,TB];clear h hg hw;go_enter Tryz.func211,Tryz.ntmps211;go_wp2_with (go_at_call 252;refine hold ?_);refine unhold ?_;refine (HL.out _ (by repeat first|exact kp0|apply kp1|apply kp2|apply kp3|apply kp4)).mono ?_;rintro e w1 ⟨u,rfl,ho,hk1⟩;have HO1:=lh (ho.base_mono (show w.heap.size≤_ by simp));have HK1:=lh (Keep.trans (show Keep w _ from (by repeat first|exact kp0|apply kp1|apply kp2|apply kp3|apply kp4)) hk1);clear ho hk1;go_wp2;go_ret;exact ⟨_,rfl,HO1.out,HK1.out⟩
 | run r A c h =>
   have HL:=lh (fun W (hW:Keep w W)=>rlist_any A c r W ((own_sl0 h rn_len (by simp only [Roa.Con.W] at hw;omega)).keep hW) hg (by simp only [Roa.Con.W] at hw;omega));simp only [Roa.Con.list];generalize hn:r.length=n at HL ⊢;clear h hg hw hn;go_enter Tryz.func211,Tryz.ntmps211;go_wp2_with (go_at_call 253;refine hold ?_);refine unhold ?_;refine (HL.out _ (by repeat first|exact kp0|apply kp1|apply kp2|apply kp3|apply kp4)).mono ?_;rintro e w1 ⟨u,rfl,ho,hk1⟩;have HO1:=lh (ho.base_mono (show w.heap.size≤_ by simp));have HK1:=lh (Keep.trans (show Keep w _ from (by repeat first|exact kp0|apply kp1|apply kp2|apply kp3|apply kp4)) hk1);clear ho hk1;go_wp2;go_ret;exact ⟨_,rfl,HO1.out,HK1.out⟩
theorem list_fit{c:Roa.Con}(hf:Fit c):(∀ x∈c.list TB,x<64)∧(c.list TB).length≤65536:=by
 obtain ⟨hg,hw⟩:=hf
 cases c with
 | arr a=>exact ⟨hg,by simp only [Roa.Con.W] at hw;simp only [Roa.Con.list];omega⟩
 | wrd x=>exact ⟨Roa.bitsL_lt (fun x _=>tzN_lt x) 64 x,by have:=Roa.bitsL_len tzN 64 x;simp only [Roa.Con.list,TB];omega⟩
 | run r=>exact ⟨Roa.listR_lt hg,by
    simp only [Roa.Con.W] at hw;simp only [Roa.Con.list,Roa.listR_len];have hg':∀ p∈r,p.1+p.2+1≤64:=hg;have:=Roa.sum_le_mul r (B:=64) (fun p hp=>by have:=hg' p hp;omega);omega⟩
theorem con_size:(Tryz.prog.info? 237).map (·.size)=some 4:=by kernel_rfl
theorem results_cell_row_tmp{fn:Func}{p u:Tmp}{ty:TypeId}(h:fn.results=#[.cell p ty,.tmp u])(tmps:Array Value)(w:World)(g:Nat)(cs:Array Value)
 (hp:tmps.getD p undef=.pointer (some ⟨g,0,none⟩)) (hl:(loadVar ty ⟨g,0,none⟩).run Tryz.prog w=.ok (.agg cs) w) :
 (results fn tmps).run Tryz.prog w=.ok (.tuple #[.agg cs,tmps.getD u undef]) w:=by
 have hp':tmps[p]?.getD undef=.pointer (some ⟨g,0,none⟩):=by simpa using hp
 rw [results_cell_tmp h];simp [hp',asAddr,hl]
theorem load_con{w:World}{g:Nat}{a b c d:Value}(h:Row w g 237 [a,b,c,d]):(loadVar 237 ⟨g,0,none⟩).run Tryz.prog w=.ok (.agg #[a,b,c,d]) w :=
 run_loadVar_row w g _ 237 #[a,b,c,d] (0,0) _ h Tryz.underlying237 rfl con_size
theorem cruns_any{w:World}{c:Roa.Con}{v:Value}(h:ConAt w c v)(hf:Fit c)(htab:Tab w):Calls Tryz.prog 209 #[v] w fun e w'=>∃ u,e=.returned u∧OwnRn w' w.heap.size u (c.runs TB)∧Keep w w':=by
 have HA:=lh (fun W (hW:Keep w W)=>carr_any (h.keep hW) hf (htab.keep hW));have HF:=lh (list_fit hf);obtain ⟨hg,hw⟩:=hf
 cases h with
 | arr a k A c hk h =>
   have HR:=lh (fun W B d (hW:Sl W 1 u16V B d a)=>rof_runs B d a W hW HF.out.1 HF.out.2);simp only [Roa.Con.list] at HA;simp only [Roa.Con.runs];have hal:a.length≤1000000:=by simp only [Roa.Con.W] at hw;omega
   have HAL:=lh hal;generalize hn:a.length=n at HA HR hal ⊢;have e3:((k:Int)==3)=false:=by simp;omega
   have e5:¬ (k:Int)=3:=by omega
   clear h hg hw hk HF;go_enter Tryz.func209,Tryz.ntmps209;go_wp2_with (go_at_call 211;refine hold ?_);refine unhold ?_;refine (HA.out _ (by repeat first|exact kp0|apply kp1|apply kp2|apply kp3|apply kp4)).mono ?_;rintro e w1 ⟨u,rfl,ho,hk1⟩;obtain ⟨B,d,hu,hsl⟩:=own_sl1 ho u16_len HAL.out;have HK1:=lh (Keep.trans (show Keep w _ from (by repeat first|exact kp0|apply kp1|apply kp2|apply kp3|apply kp4)) hk1);have HC:=lh (HR.out _ B d hsl);rw [hn] at hu;subst hu;clear ho hk1 hsl HA hn HR HAL;go_wp2_with (go_at_call 248;refine hold ?_);refine unhold ?_;refine HC.out.mono ?_;rintro e w2 ⟨u2,rfl,ho,hk2⟩;have HO:=lh (ho.base_mono HK1.out.size);have HK2:=lh (HK1.out.trans hk2);clear ho hk2 HC;go_wp2;go_ret;exact ⟨_,rfl,HO.out,HK2.out⟩
 | wrd x A c h =>
   have HR:=lh (fun W B d (hW:Sl W 1 u16V B d (Roa.bitsL tzN 64 x))=>rof_runs B d _ W hW HF.out.1 HF.out.2);have hal:=Roa.bitsL_len tzN 64 x;simp only [Roa.Con.list,TB] at HA;simp only [Roa.Con.runs,TB];generalize Roa.bitsL tzN 64 x=L at HA HR hal ⊢;have HAL:=lh (show L.length≤1000000 by omega);clear h hg hw HF hal;go_enter Tryz.func209,Tryz.ntmps209;go_wp2_with (go_at_call 211;refine hold ?_);refine unhold ?_;refine (HA.out _ (by repeat first|exact kp0|apply kp1|apply kp2|apply kp3|apply kp4)).mono ?_;rintro e w1 ⟨u,rfl,ho,hk1⟩;obtain ⟨B,d,hu,hsl⟩:=own_sl1 ho u16_len HAL.out;have HK1:=lh (Keep.trans (show Keep w _ from (by repeat first|exact kp0|apply kp1|apply kp2|apply kp3|apply kp4)) hk1);have HC:=lh (HR.out _ B d hsl);generalize hm:L.length=m at hu HC;have HM:=lh hm;subst hu;clear ho hk1 hsl HA HR HAL hm;go_wp2_with (go_at_call 248;refine hold ?_);refine unhold ?_;refine HC.out.mono ?_;rintro e w2 ⟨u2,rfl,ho,hk2⟩;have HO:=lh (ho.base_mono HK1.out.size);have HK2:=lh (HK1.out.trans hk2);clear ho hk2 HC;go_wp2;go_ret;exact ⟨_,rfl,(by rw [HM.out];exact HO.out),HK2.out⟩
 | run r A c h =>
   have HL:=lh (fun W (hW:Keep w W)=>clonern_any A c r W ((own_sl0 h rn_len (by simp only [Roa.Con.W] at hw;omega)).keep hW) (by simp only [Roa.Con.W] at hw;omega));simp only [Roa.Con.runs];generalize hn:r.length=n at HL ⊢;clear h hg hw hn HA HF;go_enter Tryz.func209,Tryz.ntmps209;go_wp2_with (go_at_call 247;refine hold ?_);refine unhold ?_;refine (HL.out _ (by repeat first|exact kp0|apply kp1|apply kp2|apply kp3|apply kp4)).mono ?_;rintro e w1 ⟨A',c',rfl,ho,hk1⟩;have HO1:=lh (ho.base_mono (show w.heap.size≤_ by simp));have HK1:=lh (Keep.trans (show Keep w _ from (by repeat first|exact kp0|apply kp1|apply kp2|apply kp3|apply kp4)) hk1);clear ho hk1;go_wp2;go_ret;exact ⟨_,rfl,HO1.out,HK1.out⟩
theorem ofarr_any(A:Option Addr)(c:Nat)(a:List Nat)(w:World)(h:Sl w 1 u16V A c a)(hi:Inc a)(hl:a.length≤65536) :
 Calls Tryz.prog 202 #[.slice A a.length c] w fun e w'=>∃ v,e=.returned (.tuple #[v,.bool true])∧ConAt w' (.arr a) v∧Keep w w':=by
 have HM:=lh (fun W (hW:Keep w W)=>amay_any A c a W (h.keep hW) hi hl);have HL:=lh (fun W (hW:Keep w W)=>cloneu16_any A c a W (h.keep hW) (by omega));have HLL:=lh (show a.length≤1000000 by omega);generalize hn:a.length=n at HM HL;have HN:=lh hn;clear h hi hl hn;go_enter Tryz.func202,Tryz.ntmps202;go_wp2_with (go_at_call 242;refine hold ?_);refine unhold ?_;have hRB:Row (w.alloc (.cells #[.int .u8 0,.slice none 0 0,.slice none 0 0,.slice none 0 0] 237)) w.heap.size 237 [.int .u8 0,.slice none 0 0,.slice none 0 0,.slice none 0 0]:=row_alloc _ _ _;refine (HM.out _ (by repeat first|exact kp0|apply kp1|apply kp2|apply kp3|apply kp4)).mono ?_;rintro e w1 ⟨rfl,hk1⟩;have HR1:=lh (hRB.keep hk1);have HK1:=lh (Keep.trans (show Keep w _ from (by repeat first|exact kp0|apply kp1|apply kp2|apply kp3|apply kp4)) hk1);clear hk1 hRB;generalize hg:w.heap.size=g at HR1 ⊢;have HGE:=lh hg;clear hg;go_wp2_with (go_at_call 205;refine hold ?_);refine unhold ?_;refine (HL.out _ HK1.out).mono ?_;rintro e w2 ⟨A',c',rfl,ho,hk2⟩;have hsl:=ho.base_mono (Nat.zero_le _);have HK2:=lh (HK1.out.trans hk2);have HR2:=lh (HR1.out.keep hk2);have HSL:=lh hsl;have x0:=HR2.out.cell 0 _ rfl;have x1:=HR2.out.cell 1 _ rfl;have x2:=HR2.out.cell 2 _ rfl;have x3:=HR2.out.cell 3 _ rfl;have q0:=HR2.out.soft 0;have q1:=HR2.out.soft 1;have q2:=HR2.out.soft 2;have q3:=HR2.out.soft 3;have hb:=HR2.out.lt;clear ho hk2 hsl
 have HR4:=lh ((((HR2.out.set 0 (.int .u8 1)).set 1 (.slice A' n c')).set 2 (.slice none 0 0)).set 3 (.slice none 0 0));have HK4:=lh ((((HK2.out.setCell (a:=⟨g,0,none⟩) (Nat.le_of_eq HGE.out) (.int .u8 1)).setCell (a:=⟨g,1,none⟩) (Nat.le_of_eq HGE.out) (.slice A' n c')).setCell (a:=⟨g,2,none⟩) (Nat.le_of_eq HGE.out) (.slice none 0 0)).setCell (a:=⟨g,3,none⟩) (Nat.le_of_eq HGE.out) (.slice none 0 0));have HC4:=lh (show ∀ W,Turn w2 W [g]→ConAt W (.arr a) (.agg #[.int .u8 1,.slice A' n c',.slice none 0 0,.slice none 0 0]) from fun W ht=>by
  have:=ConAt.arr (w:=W) a 1 A' c' (.inr rfl) (by rw [HN.out];exact Own.turn HSL.out ht fun i hi=>by simp only [List.mem_singleton] at hi;subst hi;exact own_row_ne HSL.out HR2.out (by decide))
  rwa [HN.out] at this)
 have HT4:=lh ((((Turn.set w2 ⟨g,0,none⟩ (.int .u8 1)).trans (Turn.set _ ⟨g,1,none⟩ (.slice A' n c'))).trans (Turn.set _ ⟨g,2,none⟩ (.slice none 0 0))).trans (Turn.set _ ⟨g,3,none⟩ (.slice none 0 0)));go_wp2;generalize (((w2.setCell ⟨g,0,none⟩ (.int .u8 1)).setCell ⟨g,1,none⟩ (.slice A' n c')).setCell ⟨g,2,none⟩ (.slice none 0 0)).setCell ⟨g,3,none⟩ (.slice none 0 0)=w5 at HR4 HK4 HT4 ⊢;exact bodyPost_ret (v:=.tuple #[.agg #[.int .u8 1,.slice A' n c',.slice none 0 0,.slice none 0 0],.bool true]) (results_cell_row_tmp (fn:=Tryz.f202) (p:=2) (u:=3) (ty:=237) rfl _ _ g #[.int .u8 1,.slice A' n c',.slice none 0 0,.slice none 0 0] rfl (load_con HR4.out)) rfl ⟨_,rfl,HC4.out _ HT4.out,HK4.out⟩
end Go.Proofs.YtpkocnpamcchcaaGreatDoor
