/- Parts of the proof. -/
import Derived.Test.YtpkocnpamcchcaaGreatDoorK22
set_option maxRecDepth 100000
set_option maxHeartbeats 4000000
set_option linter.unusedSimpArgs false
set_option linter.unusedVariables false
set_option linter.unnecessarySimpa false
namespace Go.Proofs.YtpkocnpamcchcaaGreatDoor
open Go.RowKit Go.Zone Go.Shelf
attribute [local go_sem] zone stepZ fill lookFs goes goesUpon dropFs cell_gro frozen_gro size_gro lt_add drew_gro tape_gro keep_refl
attribute [local go_sem] lt_add2 lt_add3 lt_add4 lt_add5 lt_add6 lt_add7 lt_add8 lt_add9 lt_add10 lt_add11 lt_add12
theorem con_form{w:World}{c:Roa.Con}{v:Value}(h:ConAt w c v):∃ (k:Nat) (A1:Option Addr) (n1 c1:Nat) (A2:Option Addr) (n2 c2:Nat) (A3:Option Addr) (n3 c3:Nat),v=.agg #[.int .u8 k,.slice A1 n1 c1,.slice A2 n2 c2,.slice A3 n3 c3]:=by
 cases h with
 | arr a k A c hk h=>exact ⟨k,A,_,c,none,0,0,none,0,0,rfl⟩
 | wrd x A c h=>exact ⟨2,none,0,0,A,1024,c,none,0,0,rfl⟩
 | run r A c h=>exact ⟨3,none,0,0,none,0,0,A,_,c,rfl⟩
def Off(w:World)(S:List Nat)(e:TypeId):Prop:=∀ g∈S,∀ cs,w.heap[g]? ≠some (.cells cs e)
theorem off_row{w:World}{g:Nat}{T e:TypeId}{vs:List Value}(h:Row w g T vs)(he:T≠e):Off w [g] e:=fun i hi cs hc=>by
 simp only [List.mem_singleton] at hi;subst hi;unfold Row at h;rw [h] at hc;simp at hc;exact he hc.2
theorem off_own{α:Type}{w:World}{b k:Nat}{T e:TypeId}{n:α→List Value}{v:Value}{xs:List α}(h:Own w b T k n v xs)(he:T≠e):Off w v.ownBlock.toList e:=fun i hi cs hc=>by
 rw [Option.mem_toList] at hi
 rcases h.2 with ⟨rfl,_⟩ | ⟨g,cap,cur,rfl,_,hg,_⟩
 ·cases hi
 ·simp only [Value.ownBlock,Option.mem_def,Option.some.injEq] at hi;subst hi;rw [hg] at hc;simp at hc;exact he hc.2
theorem Off.own{α:Type}{w w':World}{S:List Nat}{b k:Nat}{e:TypeId}{n:α→List Value}{v:Value}{xs:List α}(ho:Off w S e)(h:Own w b e k n v xs)(ht:Turn w w' S):Own w' b e k n v xs :=
 Own.turn h ht fun i hi hv=>by
  rcases h.2 with ⟨rfl,_⟩ | ⟨g,cap,cur,rfl,_,hg,_⟩
  ·cases hv
  ·simp only [Value.ownBlock,Option.some.injEq] at hv;subst hv;exact ho _ hi _ hg
theorem Off.row{w w':World}{S:List Nat}{g:Nat}{e:TypeId}{vs:List Value}(ho:Off w S e)(h:Row w g e vs)(ht:Turn w w' S):Row w' g e vs:=ht.row h fun hm=>ho g hm _ h
structure OffN(w:World)(S:List Nat):Prop where
 na:Off w S 126
 nw:Off w S 47
 nr:Off w S 277
theorem ConAt.off{w w':World}{c:Roa.Con}{v:Value}{S:List Nat}(h:ConAt w c v)(ho:OffN w S)(ht:Turn w w' S):ConAt w' c v:=by
 cases h with
 | arr a k A c hk h=>exact .arr a k A c hk (ho.na.own h ht)
 | wrd x A c h=>exact .wrd x A c (ho.nw.own h ht)
 | run r A c h=>exact .run r A c (ho.nr.own h ht)
theorem offN_row{w:World}{g:Nat}{T:TypeId}{vs:List Value}(h:Row w g T vs)(h1:T≠126)(h2:T≠47)(h3:T≠277):OffN w [g]:=⟨off_row h h1,off_row h h2,off_row h h3⟩
theorem offN_own{α:Type}{w:World}{b k:Nat}{T:TypeId}{n:α→List Value}{v:Value}{xs:List α}(h:Own w b T k n v xs)(h1:T≠126)(h2:T≠47)(h3:T≠277):OffN w v.ownBlock.toList:=⟨off_own h h1,off_own h h2,off_own h h3⟩
theorem ConAt.turn1{w w':World}{c:Roa.Con}{v:Value}{g:Nat}{vs:List Value}(h:ConAt w c v)(hr:Row w g 237 vs)(ht:Turn w w' [g]):ConAt w' c v :=
 h.off (offN_row hr (by decide) (by decide) (by decide)) ht
theorem runs_fit{c:Roa.Con}(hf:Fit c):(c.runs TB).length≤65536:=by
 obtain ⟨hg,hw⟩:=hf
 cases c with
 | arr a=>simp only [Roa.Con.W] at hw;simp only [Roa.Con.runs,Roa.runsTo_len];have:=Roa.arrRuns_le a a.length;omega
 | wrd x=>simp only [Roa.Con.runs,Roa.runsTo_len];have:=Roa.arrRuns_le (Roa.bitsL TB.tz 64 x) (Roa.bitsL TB.tz 64 x).length;have:=Roa.bitsL_len TB.tz 64 x;omega
 | run r=>simp only [Roa.Con.W] at hw;simp only [Roa.Con.runs];omega
theorem want_two{c:Roa.Con}(hf:Fit c):¬ (4096<c.len TB∧¬ 2+4*c.many TB<Roa.least (c.len TB)):=by
 obtain ⟨hg,hw⟩:=hf;rintro ⟨h1,h2⟩
 cases c with
 | arr a=>simp only [Roa.Con.W] at hw;simp only [Roa.Con.len] at h1;omega
 | wrd x=>simp only [Roa.Con.len,TB] at h1;have:=popN_le x;omega
 | run r =>
   simp only [Roa.Con.W] at hw;simp only [Roa.Con.len,Roa.Con.many] at h1 h2;unfold Roa.least at h2;rw [if_neg (by omega)] at h2;omega
theorem len_fit{c:Roa.Con}(hf:Fit c):c.len TB≤65536∧c.many TB≤65536:=by
 obtain ⟨hg,hw⟩:=hf
 cases c with
 | arr a=>simp only [Roa.Con.W] at hw;simp only [Roa.Con.len,Roa.Con.many];have:=Roa.arrRuns_le a a.length;omega
 | wrd x=>simp only [Roa.Con.len,Roa.Con.many,TB];have:=popN_le x;have:=popN_le (x &&& (18446744073709551615-x*2%18446744073709551616));omega
 | run r =>
   simp only [Roa.Con.W] at hw;have hg':∀ p∈r,p.1+p.2+1≤64:=hg;have:=Roa.sum_le_mul r (B:=64) (fun p hp=>by have:=hg' p hp;omega);simp only [Roa.Con.len,Roa.Con.many];omega
theorem canon_any{w:World}{c:Roa.Con}{v:Value}(h:ConAt w c v)(hf:Fit c)(htab:Tab w):Calls Tryz.prog 203 #[v] w fun e w'=>∃ u,e=.returned u∧ConAt w' (c.canon TB) u∧Keep w w':=by
 have HC:=lh (fun W (hW:Keep w W)=>h.keep hW);have HLE:=lh (fun W (hW:Keep w W)=>clen_any (h.keep hW) hf);have HMA:=lh (fun W (hW:Keep w W)=>many_any (h.keep hW) hf);have HKD:=lh (fun W (hW:Keep w W)=>kind_any (h.keep hW));have HRU:=lh (fun W (hW:Keep w W)=>cruns_any (h.keep hW) hf (htab.keep hW));have HAR:=lh (fun W (hW:Keep w W)=>carr_any (h.keep hW) hf (htab.keep hW));have HRL:=lh (show (c.runs TB).length≤1000000 by have:=runs_fit hf;omega);have HAL:=lh (show (c.list TB).length≤1000000 by have:=(list_fit hf).2;omega);have hw2:=want_two hf;obtain ⟨hl1,hl2⟩:=len_fit hf;have HWK0:=lh (rfl:Roa.wantK (c.len TB) (c.many TB)=Roa.wantK (c.len TB) (c.many TB));obtain ⟨k,A1,n1,c1,A2,n2,c2,A3,n3,c3,rfl⟩:=con_form h;clear h htab hf;obtain ⟨n,hn⟩:∃ n,n=c.len TB:=⟨_,rfl⟩;obtain ⟨r,hr⟩:∃ r,r=c.many TB:=⟨_,rfl⟩;rw [← hn] at HLE hl1 hw2;rw [← hr] at HMA hl2 hw2;have HNE:=lh hn;have HRE:=lh hr;clear hn hr;go_enter Tryz.func203,Tryz.ntmps203;go_upto_region 1 with fail;have hRB:Row (w.alloc (.cells #[.int .u8 k,.slice A1 n1 c1,.slice A2 n2 c2,.slice A3 n3 c3] 237)) w.heap.size 237 [.int .u8 k,.slice A1 n1 c1,.slice A2 n2 c2,.slice A3 n3 c3]:=row_alloc _ _ _;have hRR:Row ((w.alloc (.cells #[.int .u8 k,.slice A1 n1 c1,.slice A2 n2 c2,.slice A3 n3 c3] 237)).alloc (.cells #[.int .u8 0,.slice none 0 0,.slice none 0 0,.slice none 0 0] 237)) (w.heap.size+1) 237 [.int .u8 0,.slice none 0 0,.slice none 0 0,.slice none 0 0]:=by
  have:=row_alloc (w.alloc (.cells #[.int .u8 k,.slice A1 n1 c1,.slice A2 n2 c2,.slice A3 n3 c3] 237)) 237 [.int .u8 0,.slice none 0 0,.slice none 0 0,.slice none 0 0]
  rwa [World.size_alloc] at this
 have hRB2:=hRB.keep (Keep.alloc (Keep.refl _) (.cells #[.int .u8 0,.slice none 0 0,.slice none 0 0,.slice none 0 0] 237));have hKB:Keep w ((w.alloc (.cells #[.int .u8 k,.slice A1 n1 c1,.slice A2 n2 c2,.slice A3 n3 c3] 237)).alloc (.cells #[.int .u8 0,.slice none 0 0,.slice none 0 0,.slice none 0 0] 237)):=(by repeat first|exact kp0|apply kp1|apply kp2|apply kp3|apply kp4);clear hRB;generalize (w.alloc (.cells #[.int .u8 k,.slice A1 n1 c1,.slice A2 n2 c2,.slice A3 n3 c3] 237)).alloc (.cells #[.int .u8 0,.slice none 0 0,.slice none 0 0,.slice none 0 0] 237)=wb at hRR hRB2 hKB ⊢;have HGB:=lh (Nat.le_succ w.heap.size);rw [Nat.succ_eq_add_one] at HGB;generalize hg:w.heap.size+1=g at hRR HGB ⊢;generalize hgz:w.heap.size=b at hRB2 ⊢;have HGZ:=lh hgz;have HB0:=lh hRB2;have HR0:=lh hRR;have HK0:=lh hKB;have y0:=hRB2.cell 0 _ rfl;have y1:=hRB2.cell 1 _ rfl;have y2:=hRB2.cell 2 _ rfl;have y3:=hRB2.cell 3 _ rfl;have hbs:=hRB2.lt;clear hg hgz hRB2 hRR hKB
 first|refine Zone.wp_region_all_gro (by kernel_rfl) (by kernel_rfl) ?_|refine Zone.wp_region_all (by kernel_rfl) (by kernel_rfl) ?_
 repeat
  refine Zone.wpZ_step (fun K hK=>?_);go_simp
  first
  | (refine hK _ _ ?_;clear hK K)
  | (apply Exists.intro
     refine ⟨fun p=>?_,hK _ _ ?_⟩
     (first|(go_at_call 172;exact Zone.zc (HLE.out _ (HK0.out.trans (by repeat first|exact kp0|apply kp1|apply kp2|apply kp3|apply kp4))))|(go_at_call 243;exact Zone.zc (HMA.out _ (HK0.out.trans (by repeat first|exact kp0|apply kp1|apply kp2|apply kp3|apply kp4)))))
     clear hK K)
 refine Zone.wpZ_nil ?_;intro p;simp only [Zone.fill];have hk1:Keep wb (wb.gro p):=(by repeat first|exact kp0|apply kp1|apply kp2|apply kp3|apply kp4);generalize wb.gro p=w1 at hk1 ⊢;have HKW1:=lh (HK0.out.trans hk1);have HR1:=lh (HR0.out.keep hk1);have HB1:=lh (HB0.out.keep hk1);clear hk1 y0 y1 y2 y3 hbs HK0 HR0 HB0;have y0:=HB1.out.cell 0 _ rfl;have y1:=HB1.out.cell 1 _ rfl;have y2:=HB1.out.cell 2 _ rfl;have y3:=HB1.out.cell 3 _ rfl;have hbs:=HB1.out.lt;obtain ⟨t,ht⟩:∃ t,t=4*r:=⟨_,rfl⟩;obtain ⟨s,hs⟩:∃ s,s=2+t:=⟨_,rfl⟩;obtain ⟨m2,hm2⟩:∃ m2,m2=2*n:=⟨_,rfl⟩;have e1:IntKind.i64.wrap (4*(r:Int))=(t:Int):=by rw [IntWalk.i64_in _ ⟨by omega,by omega⟩];omega
 have e2:IntKind.i64.wrap (2+(t:Int))=(s:Int):=by rw [IntWalk.i64_in _ ⟨by omega,by omega⟩];omega
 have e3:IntKind.i64.wrap (2*(n:Int))=(m2:Int):=by rw [IntWalk.i64_in _ ⟨by omega,by omega⟩];omega
 by_cases h1:n≤4096
 ·have d1:decide ((n:Int)≤4096)=true:=by simp;omega
  by_cases h2:s<m2
  ·have d2:decide ((s:Int)<(m2:Int))=true:=by simp;omega
   have HWK:=lh (show Roa.wantK (c.len TB) (c.many TB)=3 by rw [← HNE.out,← HRE.out];unfold Roa.wantK Roa.least;rw [if_pos h1,if_pos (by omega)]);clear ht hs hm2 hw2;go_wp2_with (go_at_call 170;refine hold ?_);refine unhold ?_;refine (HKD.out _ HKW1.out).mono ?_;rintro e w2 ⟨rfl,hk2⟩;have HKW2:=lh (HKW1.out.trans hk2);have HR2:=lh (HR1.out.keep hk2);have HB2:=lh (HB1.out.keep hk2);clear hk2;have y0:=HB2.out.cell 0 _ rfl;have y1:=HB2.out.cell 1 _ rfl;have y2:=HB2.out.cell 2 _ rfl;have y3:=HB2.out.cell 3 _ rfl;have hbs:=HB2.out.lt
   by_cases hke:c.kind=3
   ·rw [hke];have HTE:=lh (show c.canon TB=c by unfold Roa.Con.canon Roa.Con.turn;rw [HWK.out,if_pos hke.symm]);clear hke;have HCC:=lh (show ConAt w2 (c.canon TB) (.agg #[.int .u8 k,.slice A1 n1 c1,.slice A2 n2 c2,.slice A3 n3 c3]) from by rw [HTE.out];exact HC.out _ HKW2.out);obtain ⟨wz,hwz⟩:∃ wz,wz=w2:=⟨_,rfl⟩;subst hwz;have HR:=HR2;have HKW:=HKW2;have x0:=HR.out.cell 0 _ rfl;have x1:=HR.out.cell 1 _ rfl;have x2:=HR.out.cell 2 _ rfl;have x3:=HR.out.cell 3 _ rfl;have q0:=HR.out.soft 0;have q1:=HR.out.soft 1;have q2:=HR.out.soft 2;have q3:=HR.out.soft 3;have hgs:=HR.out.lt;have HR4:=lh ((((HR.out.set 0 (.int .u8 k)).set 1 (.slice A1 n1 c1)).set 2 (.slice A2 n2 c2)).set 3 (.slice A3 n3 c3));have HK4:=lh ((((HKW.out.setCell (a:=⟨g,0,none⟩) HGB.out (.int .u8 k)).setCell (a:=⟨g,1,none⟩) HGB.out (.slice A1 n1 c1)).setCell (a:=⟨g,2,none⟩) HGB.out (.slice A2 n2 c2)).setCell (a:=⟨g,3,none⟩) HGB.out (.slice A3 n3 c3));have HT4:=lh ((((Turn.set wz ⟨g,0,none⟩ (.int .u8 k)).trans (Turn.set _ ⟨g,1,none⟩ (.slice A1 n1 c1))).trans (Turn.set _ ⟨g,2,none⟩ (.slice A2 n2 c2))).trans (Turn.set _ ⟨g,3,none⟩ (.slice A3 n3 c3)));go_wp2;generalize (((wz.setCell ⟨g,0,none⟩ (.int .u8 k)).setCell ⟨g,1,none⟩ (.slice A1 n1 c1)).setCell ⟨g,2,none⟩ (.slice A2 n2 c2)).setCell ⟨g,3,none⟩ (.slice A3 n3 c3)=w9 at HR4 HK4 HT4 ⊢
    exact bodyPost_ret (v:=.agg #[(.int .u8 k),(.slice A1 n1 c1),(.slice A2 n2 c2),(.slice A3 n3 c3)]) (results_cell_row rfl _ _ g 237 #[(.int .u8 k),(.slice A1 n1 c1),(.slice A2 n2 c2),(.slice A3 n3 c3)] (0,0) _ rfl HR4.out Tryz.underlying237 rfl con_size) rfl ⟨_,rfl,HCC.out.turn1 HR.out HT4.out,HK4.out⟩
   ·obtain ⟨kd,hkd⟩:∃ kd,kd=c.kind:=⟨_,rfl⟩;rw [← hkd];have e8:((3:Int)==(kd:Int))=false:=by simp;omega
    have e9:¬ (3:Int)=(kd:Int):=by omega
    have HTE:=lh (show c.canon TB=.run (c.runs TB) by unfold Roa.Con.canon Roa.Con.turn;rw [HWK.out,if_neg (fun e=>hke e.symm),if_pos rfl]);clear hke hkd;go_wp2_with (go_at_call 209;refine hold ?_);refine unhold ?_;refine (HRU.out _ HKW2.out).mono ?_;rintro e w3 ⟨u,rfl,ho,hk3⟩;obtain ⟨B,d,rfl,_⟩:=own_sl1 ho rn_len HRL.out;have hsl:=ho.base_mono (Nat.zero_le _);have HKW:=lh (HKW2.out.trans hk3);have HR:=lh (HR2.out.keep hk3);have HCC:=lh (show ConAt w3 (c.canon TB) (.agg #[.int .u8 3,.slice none 0 0,.slice none 0 0,.slice B (c.runs TB).length d]) from by rw [HTE.out];exact .run _ B d hsl);generalize (c.runs TB).length=m at HCC ⊢;clear ho hk3 hsl y0 y1 y2 y3 hbs HR2 HB2;obtain ⟨wz,hwz⟩:∃ wz,wz=w3:=⟨_,rfl⟩;subst hwz;have x0:=HR.out.cell 0 _ rfl;have x1:=HR.out.cell 1 _ rfl;have x2:=HR.out.cell 2 _ rfl;have x3:=HR.out.cell 3 _ rfl;have q0:=HR.out.soft 0;have q1:=HR.out.soft 1;have q2:=HR.out.soft 2;have q3:=HR.out.soft 3;have hgs:=HR.out.lt;have HR4:=lh ((((HR.out.set 0 (.int .u8 3)).set 1 (.slice none 0 0)).set 2 (.slice none 0 0)).set 3 (.slice B m d));have HK4:=lh ((((HKW.out.setCell (a:=⟨g,0,none⟩) HGB.out (.int .u8 3)).setCell (a:=⟨g,1,none⟩) HGB.out (.slice none 0 0)).setCell (a:=⟨g,2,none⟩) HGB.out (.slice none 0 0)).setCell (a:=⟨g,3,none⟩) HGB.out (.slice B m d));have HT4:=lh ((((Turn.set wz ⟨g,0,none⟩ (.int .u8 3)).trans (Turn.set _ ⟨g,1,none⟩ (.slice none 0 0))).trans (Turn.set _ ⟨g,2,none⟩ (.slice none 0 0))).trans (Turn.set _ ⟨g,3,none⟩ (.slice B m d)));go_wp2
    generalize (((wz.setCell ⟨g,0,none⟩ (.int .u8 3)).setCell ⟨g,1,none⟩ (.slice none 0 0)).setCell ⟨g,2,none⟩ (.slice none 0 0)).setCell ⟨g,3,none⟩ (.slice B m d)=w9 at HR4 HK4 HT4 ⊢;exact bodyPost_ret (v:=.agg #[(.int .u8 3),(.slice none 0 0),(.slice none 0 0),(.slice B m d)]) (results_cell_row rfl _ _ g 237 #[(.int .u8 3),(.slice none 0 0),(.slice none 0 0),(.slice B m d)] (0,0) _ rfl HR4.out Tryz.underlying237 rfl con_size) rfl ⟨_,rfl,HCC.out.turn1 HR.out HT4.out,HK4.out⟩
  ·have d2:decide ((s:Int)<(m2:Int))=false:=by simp;omega
   have HWK:=lh (show Roa.wantK (c.len TB) (c.many TB)=1 by rw [← HNE.out,← HRE.out];unfold Roa.wantK Roa.least;rw [if_pos h1,if_neg (by omega),if_pos h1]);clear ht hs hm2 hw2;go_wp2_with (go_at_call 170;refine hold ?_);refine unhold ?_;refine (HKD.out _ HKW1.out).mono ?_;rintro e w2 ⟨rfl,hk2⟩;have HKW2:=lh (HKW1.out.trans hk2);have HR2:=lh (HR1.out.keep hk2);have HB2:=lh (HB1.out.keep hk2);clear hk2;have y0:=HB2.out.cell 0 _ rfl;have y1:=HB2.out.cell 1 _ rfl;have y2:=HB2.out.cell 2 _ rfl;have y3:=HB2.out.cell 3 _ rfl;have hbs:=HB2.out.lt
   by_cases hke:c.kind=1
   ·rw [hke];have HTE:=lh (show c.canon TB=c by unfold Roa.Con.canon Roa.Con.turn;rw [HWK.out,if_pos hke.symm]);clear hke;have HCC:=lh (show ConAt w2 (c.canon TB) (.agg #[.int .u8 k,.slice A1 n1 c1,.slice A2 n2 c2,.slice A3 n3 c3]) from by rw [HTE.out];exact HC.out _ HKW2.out);obtain ⟨wz,hwz⟩:∃ wz,wz=w2:=⟨_,rfl⟩;subst hwz;have HR:=HR2;have HKW:=HKW2;have x0:=HR.out.cell 0 _ rfl;have x1:=HR.out.cell 1 _ rfl;have x2:=HR.out.cell 2 _ rfl;have x3:=HR.out.cell 3 _ rfl;have q0:=HR.out.soft 0;have q1:=HR.out.soft 1;have q2:=HR.out.soft 2;have q3:=HR.out.soft 3;have hgs:=HR.out.lt;have HR4:=lh ((((HR.out.set 0 (.int .u8 k)).set 1 (.slice A1 n1 c1)).set 2 (.slice A2 n2 c2)).set 3 (.slice A3 n3 c3));have HK4:=lh ((((HKW.out.setCell (a:=⟨g,0,none⟩) HGB.out (.int .u8 k)).setCell (a:=⟨g,1,none⟩) HGB.out (.slice A1 n1 c1)).setCell (a:=⟨g,2,none⟩) HGB.out (.slice A2 n2 c2)).setCell (a:=⟨g,3,none⟩) HGB.out (.slice A3 n3 c3));have HT4:=lh ((((Turn.set wz ⟨g,0,none⟩ (.int .u8 k)).trans (Turn.set _ ⟨g,1,none⟩ (.slice A1 n1 c1))).trans (Turn.set _ ⟨g,2,none⟩ (.slice A2 n2 c2))).trans (Turn.set _ ⟨g,3,none⟩ (.slice A3 n3 c3)));go_wp2;generalize (((wz.setCell ⟨g,0,none⟩ (.int .u8 k)).setCell ⟨g,1,none⟩ (.slice A1 n1 c1)).setCell ⟨g,2,none⟩ (.slice A2 n2 c2)).setCell ⟨g,3,none⟩ (.slice A3 n3 c3)=w9 at HR4 HK4 HT4 ⊢
    exact bodyPost_ret (v:=.agg #[(.int .u8 k),(.slice A1 n1 c1),(.slice A2 n2 c2),(.slice A3 n3 c3)]) (results_cell_row rfl _ _ g 237 #[(.int .u8 k),(.slice A1 n1 c1),(.slice A2 n2 c2),(.slice A3 n3 c3)] (0,0) _ rfl HR4.out Tryz.underlying237 rfl con_size) rfl ⟨_,rfl,HCC.out.turn1 HR.out HT4.out,HK4.out⟩
   ·obtain ⟨kd,hkd⟩:∃ kd,kd=c.kind:=⟨_,rfl⟩;rw [← hkd];have e8:((1:Int)==(kd:Int))=false:=by simp;omega
    have e9:¬ (1:Int)=(kd:Int):=by omega
    have HTE:=lh (show c.canon TB=.arr (c.list TB) by unfold Roa.Con.canon Roa.Con.turn;rw [HWK.out,if_neg (fun e=>hke e.symm),if_neg (by decide),if_pos rfl]);clear hke hkd;go_wp2_with (go_at_call 211;refine hold ?_);refine unhold ?_;refine (HAR.out _ HKW2.out).mono ?_;rintro e w3 ⟨u,rfl,ho,hk3⟩;obtain ⟨B,d,rfl,_⟩:=own_sl1 ho u16_len HAL.out;have hsl:=ho.base_mono (Nat.zero_le _);have HKW:=lh (HKW2.out.trans hk3);have HR:=lh (HR2.out.keep hk3);have HCC:=lh (show ConAt w3 (c.canon TB) (.agg #[.int .u8 1,.slice B (c.list TB).length d,.slice none 0 0,.slice none 0 0]) from by rw [HTE.out];exact .arr _ 1 B d (.inr rfl) hsl);generalize (c.list TB).length=m at HCC ⊢;clear ho hk3 hsl y0 y1 y2 y3 hbs HR2 HB2;obtain ⟨wz,hwz⟩:∃ wz,wz=w3:=⟨_,rfl⟩;subst hwz;have x0:=HR.out.cell 0 _ rfl;have x1:=HR.out.cell 1 _ rfl;have x2:=HR.out.cell 2 _ rfl;have x3:=HR.out.cell 3 _ rfl;have q0:=HR.out.soft 0;have q1:=HR.out.soft 1;have q2:=HR.out.soft 2;have q3:=HR.out.soft 3;have hgs:=HR.out.lt;have HR4:=lh ((((HR.out.set 0 (.int .u8 1)).set 1 (.slice B m d)).set 2 (.slice none 0 0)).set 3 (.slice none 0 0));have HK4:=lh ((((HKW.out.setCell (a:=⟨g,0,none⟩) HGB.out (.int .u8 1)).setCell (a:=⟨g,1,none⟩) HGB.out (.slice B m d)).setCell (a:=⟨g,2,none⟩) HGB.out (.slice none 0 0)).setCell (a:=⟨g,3,none⟩) HGB.out (.slice none 0 0))
    have HT4:=lh ((((Turn.set wz ⟨g,0,none⟩ (.int .u8 1)).trans (Turn.set _ ⟨g,1,none⟩ (.slice B m d))).trans (Turn.set _ ⟨g,2,none⟩ (.slice none 0 0))).trans (Turn.set _ ⟨g,3,none⟩ (.slice none 0 0)));go_wp2;generalize (((wz.setCell ⟨g,0,none⟩ (.int .u8 1)).setCell ⟨g,1,none⟩ (.slice B m d)).setCell ⟨g,2,none⟩ (.slice none 0 0)).setCell ⟨g,3,none⟩ (.slice none 0 0)=w9 at HR4 HK4 HT4 ⊢;exact bodyPost_ret (v:=.agg #[(.int .u8 1),(.slice B m d),(.slice none 0 0),(.slice none 0 0)]) (results_cell_row rfl _ _ g 237 #[(.int .u8 1),(.slice B m d),(.slice none 0 0),(.slice none 0 0)] (0,0) _ rfl HR4.out Tryz.underlying237 rfl con_size) rfl ⟨_,rfl,HCC.out.turn1 HR.out HT4.out,HK4.out⟩
 ·have d1:decide ((n:Int)≤4096)=false:=by simp;omega
  have h2:s<8192:=by
   unfold Roa.least at hw2;rw [if_neg h1] at hw2;omega
  have d2:decide ((s:Int)<8192)=true:=by simp;omega
  have HWK:=lh (show Roa.wantK (c.len TB) (c.many TB)=3 by rw [← HNE.out,← HRE.out];unfold Roa.wantK Roa.least;rw [if_neg h1,if_pos (by omega)]);clear ht hs hm2 hw2;go_wp2_with (go_at_call 170;refine hold ?_);refine unhold ?_;refine (HKD.out _ HKW1.out).mono ?_;rintro e w2 ⟨rfl,hk2⟩;have HKW2:=lh (HKW1.out.trans hk2);have HR2:=lh (HR1.out.keep hk2);have HB2:=lh (HB1.out.keep hk2);clear hk2;have y0:=HB2.out.cell 0 _ rfl;have y1:=HB2.out.cell 1 _ rfl;have y2:=HB2.out.cell 2 _ rfl;have y3:=HB2.out.cell 3 _ rfl;have hbs:=HB2.out.lt
  by_cases hke:c.kind=3
  ·rw [hke];have HTE:=lh (show c.canon TB=c by unfold Roa.Con.canon Roa.Con.turn;rw [HWK.out,if_pos hke.symm]);clear hke;have HCC:=lh (show ConAt w2 (c.canon TB) (.agg #[.int .u8 k,.slice A1 n1 c1,.slice A2 n2 c2,.slice A3 n3 c3]) from by rw [HTE.out];exact HC.out _ HKW2.out);obtain ⟨wz,hwz⟩:∃ wz,wz=w2:=⟨_,rfl⟩;subst hwz;have HR:=HR2;have HKW:=HKW2;have x0:=HR.out.cell 0 _ rfl;have x1:=HR.out.cell 1 _ rfl;have x2:=HR.out.cell 2 _ rfl;have x3:=HR.out.cell 3 _ rfl;have q0:=HR.out.soft 0;have q1:=HR.out.soft 1;have q2:=HR.out.soft 2;have q3:=HR.out.soft 3;have hgs:=HR.out.lt;have HR4:=lh ((((HR.out.set 0 (.int .u8 k)).set 1 (.slice A1 n1 c1)).set 2 (.slice A2 n2 c2)).set 3 (.slice A3 n3 c3));have HK4:=lh ((((HKW.out.setCell (a:=⟨g,0,none⟩) HGB.out (.int .u8 k)).setCell (a:=⟨g,1,none⟩) HGB.out (.slice A1 n1 c1)).setCell (a:=⟨g,2,none⟩) HGB.out (.slice A2 n2 c2)).setCell (a:=⟨g,3,none⟩) HGB.out (.slice A3 n3 c3));have HT4:=lh ((((Turn.set wz ⟨g,0,none⟩ (.int .u8 k)).trans (Turn.set _ ⟨g,1,none⟩ (.slice A1 n1 c1))).trans (Turn.set _ ⟨g,2,none⟩ (.slice A2 n2 c2))).trans (Turn.set _ ⟨g,3,none⟩ (.slice A3 n3 c3)));go_wp2;generalize (((wz.setCell ⟨g,0,none⟩ (.int .u8 k)).setCell ⟨g,1,none⟩ (.slice A1 n1 c1)).setCell ⟨g,2,none⟩ (.slice A2 n2 c2)).setCell ⟨g,3,none⟩ (.slice A3 n3 c3)=w9 at HR4 HK4 HT4 ⊢
   exact bodyPost_ret (v:=.agg #[(.int .u8 k),(.slice A1 n1 c1),(.slice A2 n2 c2),(.slice A3 n3 c3)]) (results_cell_row rfl _ _ g 237 #[(.int .u8 k),(.slice A1 n1 c1),(.slice A2 n2 c2),(.slice A3 n3 c3)] (0,0) _ rfl HR4.out Tryz.underlying237 rfl con_size) rfl ⟨_,rfl,HCC.out.turn1 HR.out HT4.out,HK4.out⟩
  ·obtain ⟨kd,hkd⟩:∃ kd,kd=c.kind:=⟨_,rfl⟩;rw [← hkd];have e8:((3:Int)==(kd:Int))=false:=by simp;omega
   have e9:¬ (3:Int)=(kd:Int):=by omega
   have HTE:=lh (show c.canon TB=.run (c.runs TB) by unfold Roa.Con.canon Roa.Con.turn;rw [HWK.out,if_neg (fun e=>hke e.symm),if_pos rfl]);clear hke hkd;go_wp2_with (go_at_call 209;refine hold ?_);refine unhold ?_;refine (HRU.out _ HKW2.out).mono ?_;rintro e w3 ⟨u,rfl,ho,hk3⟩;obtain ⟨B,d,rfl,_⟩:=own_sl1 ho rn_len HRL.out;have hsl:=ho.base_mono (Nat.zero_le _);have HKW:=lh (HKW2.out.trans hk3);have HR:=lh (HR2.out.keep hk3);have HCC:=lh (show ConAt w3 (c.canon TB) (.agg #[.int .u8 3,.slice none 0 0,.slice none 0 0,.slice B (c.runs TB).length d]) from by rw [HTE.out];exact .run _ B d hsl);generalize (c.runs TB).length=m at HCC ⊢;clear ho hk3 hsl y0 y1 y2 y3 hbs HR2 HB2;obtain ⟨wz,hwz⟩:∃ wz,wz=w3:=⟨_,rfl⟩;subst hwz;have x0:=HR.out.cell 0 _ rfl;have x1:=HR.out.cell 1 _ rfl;have x2:=HR.out.cell 2 _ rfl;have x3:=HR.out.cell 3 _ rfl;have q0:=HR.out.soft 0;have q1:=HR.out.soft 1;have q2:=HR.out.soft 2;have q3:=HR.out.soft 3;have hgs:=HR.out.lt;have HR4:=lh ((((HR.out.set 0 (.int .u8 3)).set 1 (.slice none 0 0)).set 2 (.slice none 0 0)).set 3 (.slice B m d));have HK4:=lh ((((HKW.out.setCell (a:=⟨g,0,none⟩) HGB.out (.int .u8 3)).setCell (a:=⟨g,1,none⟩) HGB.out (.slice none 0 0)).setCell (a:=⟨g,2,none⟩) HGB.out (.slice none 0 0)).setCell (a:=⟨g,3,none⟩) HGB.out (.slice B m d));have HT4:=lh ((((Turn.set wz ⟨g,0,none⟩ (.int .u8 3)).trans (Turn.set _ ⟨g,1,none⟩ (.slice none 0 0))).trans (Turn.set _ ⟨g,2,none⟩ (.slice none 0 0))).trans (Turn.set _ ⟨g,3,none⟩ (.slice B m d)));go_wp2
   generalize (((wz.setCell ⟨g,0,none⟩ (.int .u8 3)).setCell ⟨g,1,none⟩ (.slice none 0 0)).setCell ⟨g,2,none⟩ (.slice none 0 0)).setCell ⟨g,3,none⟩ (.slice B m d)=w9 at HR4 HK4 HT4 ⊢;exact bodyPost_ret (v:=.agg #[(.int .u8 3),(.slice none 0 0),(.slice none 0 0),(.slice B m d)]) (results_cell_row rfl _ _ g 237 #[(.int .u8 3),(.slice none 0 0),(.slice none 0 0),(.slice B m d)] (0,0) _ rfl HR4.out Tryz.underlying237 rfl con_size) rfl ⟨_,rfl,HCC.out.turn1 HR.out HT4.out,HK4.out⟩
end Go.Proofs.YtpkocnpamcchcaaGreatDoor
