/- Parts of the proof. -/
import Derived.Test.YtpkocnpamcchcaaGreatDoorK45
set_option maxRecDepth 100000
set_option maxHeartbeats 4000000
set_option linter.unusedSimpArgs false
set_option linter.unusedVariables false
set_option linter.unnecessarySimpa false
namespace Go.Proofs.YtpkocnpamcchcaaGreatDoor
open Go.RowKit Go.Zone Go.Shelf
attribute [local go_sem] zone stepZ fill lookFs goes goesUpon dropFs cell_gro frozen_gro size_gro lt_add drew_gro tape_gro keep_refl
attribute [local go_sem] lt_add2 lt_add3 lt_add4 lt_add5 lt_add6 lt_add7 lt_add8 lt_add9 lt_add10 lt_add11 lt_add12
theorem run_madeN{P:Program}{t e:TypeId}{i:TypeInfo}{z:Value}(ht:P.underlying t=some (.slice e))(hi:P.info? e=some i)(h1:i.zero=some z)(h2:i.size=1)(hone:z.cells=#[z])(n:Nat)(W:World)(hn:i.bytes*n≤140737488355328)(hm:n≤1000000000) :
 (Instr.makeSlice t (.int .i64 (n:Int)) (.int .i64 (n:Int))).run P W=.ok (.slice (some ⟨W.heap.size,0,none⟩) n n) (W.alloc (.cells (List.replicate n z).toArray e)):=by
 have hr:=run_make (P:=P) W t e i _ ht hi h1 .i64 .i64 (n:Int) (n:Int) (by omega) (by omega) (by have h:=Int.ofNat_le.2 (Nat.le_trans hn (by decide:140737488355328≤281474976710656));simpa using h) (by omega);rw [Int.toNat_natCast,h2] at hr;have e:madeCells z.cells (n*1)=(List.replicate n z).toArray:=by
  apply Array.ext
  ·simp [madeCells]
  ·intro i h1 h2;simp [madeCells,hone,Nat.mod_one]
 rw [e] at hr;exact hr
theorem make_in(n:Nat)(hn:n≤1000)(W:World):(Instr.makeSlice 24 (.int .i64 (n:Int)) (.int .i64 (n:Int))).run Tryz.prog W=.ok (.slice (some ⟨W.heap.size,0,none⟩) n n) (W.alloc (.cells (List.replicate n (.int .i64 0)).toArray 3)):=by
 obtain ⟨i,hi,h1,h2,h3⟩:=info_parts (show (Tryz.prog.info? 3).map (fun i=>(i.zero,i.size,i.bytes))=some (some (.int .i64 0),1,8) by kernel_rfl);exact run_madeN Tryz.underlying24 hi h1 h2 rfl n W (by rw [h3];omega) (by omega)
theorem make_sn(n:Nat)(hn:n≤1000)(W:World):(Instr.makeSlice 49 (.int .i64 (n:Int)) (.int .i64 (n:Int))).run Tryz.prog W=.ok (.slice (some ⟨W.heap.size,0,none⟩) n n) (W.alloc (.cells (List.replicate n (.slice none 0 0)).toArray 24)):=by
 obtain ⟨i,hi,h1,h2,h3⟩:=info_parts (show (Tryz.prog.info? 24).map (fun i=>(i.zero,i.size,i.bytes))=some (some (.slice none 0 0),1,24) by kernel_rfl);exact run_madeN Tryz.underlying49 hi h1 h2 rfl n W (by rw [h3];omega) (by omega)
theorem build_any(cs:List Col)(c:Cfg)(A B:Option Addr)(n m:Nat)(rows:List Rw)(w:World)(h:Sl w 2 Col.cells A n cs)(hf:Fits cs c)
 (hc:CfgAt w c) (hiA:∀ bb off,c.iA=some ⟨bb,off,none⟩→bb<w.heap.size) (hrA:∀ bb off,c.rA=some ⟨bb,off,none⟩→bb<w.heap.size)
 (hr:Sl w 1 Rw.cells B m rows) (hra:RowsAt w rows) (hrl:rows.length≤64) (hrs:∀ r∈rows,r.vs.length≤1000000) (he:tErr cs (rows.map (·.vs))=0) (htab:TabP w) (htb:Tab w)
 (hS:∀ S:List Sec,S.map nbS=imgG cs c (sortF c.sort (rows.map (·.vs)))→SecsP S) :
 Calls Tryz.prog 9 #[.slice A cs.length n,c.v,.slice B rows.length m] w fun e w'=>∃ v S,e=.returned (.tuple #[v,.int .i64 0])∧S.map nbS=imgG cs c (sortF c.sort (rows.map (·.vs)))∧SecsP S∧OwnB w' w.heap.size v (imageB S)∧Keep w w':=by
 have hz:∀ x∈cs,x.name.size≤140737488355328:=fun x hx=>by
  obtain ⟨i,hi,rfl⟩:=List.getElem_of_mem hx;have:=(hf.may.name i hi).hi;omega
 have HSO:=lh (fun W (hW:Keep w W)=>tsort_any A B n m cs c rows W (h.keep hW) hz (hc.keep hW) hf (hr.keep hW) (hra.keep hW) (by omega) (fun r hx=>by have:=hrs r hx;omega) he);have HSB:=lh (fun W (hW:Keep w W)=>sbytes_any A n cs c W (h.keep hW) hz (hc.keep hW) hf);have HSL8:=lh (show (schB cs c).length≤20000 by have:=schB_len hf;have:=hf.may.hi;have:=hf.few;omega);generalize hsb:schB cs c=SB at HSB HSL8;have HSE:=lh hsb;clear hsb;have HL:=lh h;have HF:=lh hf;have HCF:=lh hc;have HRS:=lh hrs;have HRL:=lh hrl;have HI:=lh hiA;have HRA:=lh hrA;have HTE:=lh he;have HSH:=lh hS;have hcl:=hf.may.hi;obtain ⟨nc,hnc⟩:∃ nc,nc=cs.length:=⟨_,rfl⟩;rw [← hnc] at hcl HSO HSB ⊢;have HNC:=lh hnc;have hm1:=make_in nc (by omega);have hm2:=make_sn nc (by omega);clear h hf hz hc hr hra hrl hrs he hiA hrA hnc hS;obtain ⟨s0,iA,ic,iv,rA,rc,rv,sA,sc,sp,lf⟩:=c;simp only at HI HRA;go_enter Tryz.func9,Tryz.ntmps9;simp only [Cfg.v] at HSO HSB ⊢;go_wp2;go_step3;have hB:BoxA w (w.alloc (.cells #[.int .i64 s0,.slice iA iv.length ic,.slice rA rv.length rc,.slice sA sp.length sc,.int .i64 lf] 26)) [.int .i64 s0,.slice iA iv.length ic,.slice rA rv.length rc,.slice sA sp.length sc,.int .i64 lf]:=BoxA.start (t:=26) (Keep.refl _);generalize hwb:World.alloc w _=wb at hB ⊢;have hbs:=hB.lt;have x0:=hB.at_ 0 _ rfl;have x1:=hB.at_ 1 _ rfl;have x2:=hB.at_ 2 _ rfl;have x3:=hB.at_ 3 _ rfl;have x4:=hB.at_ 4 _ rfl;have HKB:=lh hB.keep;have HX0:=lh x0;have HX1:=lh x1;have HX2:=lh x2;have HX3:=lh x3;have HX4:=lh x4;clear hwb hB
 generalize hg0:w.heap.size=g0 at hbs x0 x1 x2 x3 x4 HX0 HX1 HX2 HX3 HX4 ⊢;have HG0:=lh hg0;clear hg0;go_wp2_with (go_at_call 28;refine hold ?_);refine unhold ?_;refine (HSO.out _ HKB.out).mono ?_;rintro e w1 ⟨g1,rfl,L,hgo,hgn,hgv,hk1⟩;have HGO:=lh hgo;have HGN:=lh hgn;have HGV:=lh hgv;have HK1:=lh hk1;clear x0 x1 x2 x3 x4 hgo hgn hgv;have x0:=box_cell hk1 hbs HX0.out;have x1:=box_cell hk1 hbs HX1.out;have x2:=box_cell hk1 hbs HX2.out;have x3:=box_cell hk1 hbs HX3.out;have x4:=box_cell hk1 hbs HX4.out;have hgw:g0<w1.heap.size:=block_lt_of_cell x0;clear hk1 HSO;go_upto_region 4 with fail;go_cut [10] from 32 to 42 (fun s10 wx=>∃ bx b gi gq,s10=.pointer (some ⟨bx,0,none⟩)∧wx.cell? ⟨bx,0,none⟩=some (.pointer (some ⟨b,0,none⟩))∧b≠bx ∧
  Hid (Row wx b 77 (mkC (.slice A nc n) (.int .i64 s0) (.slice iA iv.length ic) (.slice rA rv.length rc) (.slice sA sp.length sc) (.int .i64 lf) (.slice (some ⟨g1,0,none⟩) rows.length rows.length) (.slice none 0 0) (.slice (some ⟨gi,0,none⟩) nc nc) (.slice (some ⟨gq,0,none⟩) nc nc) (.slice none 0 0))) ∧
  Hid (Row wx gi 24 (List.replicate nc (.slice none 0 0)))∧Hid (Row wx gq 3 (List.replicate nc (.int .i64 0)))∧Hid (Keep w1 wx)∧w1.heap.size≤b∧w1.heap.size≤bx∧w1.heap.size≤gi∧w1.heap.size≤gq)
 case first =>
  go_region
  all_goals
   go_wp2_with fail;go_meet
   first
   | exact ⟨_,w1.heap.size+2,w1.heap.size+0,w1.heap.size+1,rfl,(by simp [go_sem]),(by omega),allocs_at [_,_,_,_] w1 2 _ rfl,allocs_at [_,_,_,_] w1 0 _ rfl,allocs_at [_,_,_,_] w1 1 _ rfl,(by repeat first|exact kp0|apply kp1|apply kp2|apply kp3|apply kp4),(by omega),(by omega),(by omega),(by omega)⟩
   | exact ⟨_,w1.heap.size+2,w1.heap.size+1,w1.heap.size+0,rfl,(by simp [go_sem]),(by omega),allocs_at [_,_,_,_] w1 2 _ rfl,allocs_at [_,_,_,_] w1 1 _ rfl,allocs_at [_,_,_,_] w1 0 _ rfl,(by repeat first|exact kp0|apply kp1|apply kp2|apply kp3|apply kp4),(by omega),(by omega),(by omega),(by omega)⟩
   | exact ⟨_,w1.heap.size+3,w1.heap.size+0,w1.heap.size+1,rfl,(by simp [go_sem]),(by omega),allocs_at [_,_,_,_] w1 3 _ rfl,allocs_at [_,_,_,_] w1 0 _ rfl,allocs_at [_,_,_,_] w1 1 _ rfl,(by repeat first|exact kp0|apply kp1|apply kp2|apply kp3|apply kp4),(by omega),(by omega),(by omega),(by omega)⟩
   | exact ⟨_,w1.heap.size+3,w1.heap.size+1,w1.heap.size+0,rfl,(by simp [go_sem]),(by omega),allocs_at [_,_,_,_] w1 3 _ rfl,allocs_at [_,_,_,_] w1 1 _ rfl,allocs_at [_,_,_,_] w1 0 _ rfl,(by repeat first|exact kp0|apply kp1|apply kp2|apply kp3|apply kp4),(by omega),(by omega),(by omega),(by omega)⟩
   | exact ⟨_,w1.heap.size+3,w1.heap.size+0,w1.heap.size+2,rfl,(by simp [go_sem]),(by omega),allocs_at [_,_,_,_] w1 3 _ rfl,allocs_at [_,_,_,_] w1 0 _ rfl,allocs_at [_,_,_,_] w1 2 _ rfl,(by repeat first|exact kp0|apply kp1|apply kp2|apply kp3|apply kp4),(by omega),(by omega),(by omega),(by omega)⟩
   | exact ⟨_,w1.heap.size+3,w1.heap.size+2,w1.heap.size+0,rfl,(by simp [go_sem]),(by omega),allocs_at [_,_,_,_] w1 3 _ rfl,allocs_at [_,_,_,_] w1 2 _ rfl,allocs_at [_,_,_,_] w1 0 _ rfl,(by repeat first|exact kp0|apply kp1|apply kp2|apply kp3|apply kp4),(by omega),(by omega),(by omega),(by omega)⟩
   | exact ⟨_,w1.heap.size+3,w1.heap.size+1,w1.heap.size+2,rfl,(by simp [go_sem]),(by omega),allocs_at [_,_,_,_] w1 3 _ rfl,allocs_at [_,_,_,_] w1 1 _ rfl,allocs_at [_,_,_,_] w1 2 _ rfl,(by repeat first|exact kp0|apply kp1|apply kp2|apply kp3|apply kp4),(by omega),(by omega),(by omega),(by omega)⟩
   | exact ⟨_,w1.heap.size+3,w1.heap.size+2,w1.heap.size+1,rfl,(by simp [go_sem]),(by omega),allocs_at [_,_,_,_] w1 3 _ rfl,allocs_at [_,_,_,_] w1 2 _ rfl,allocs_at [_,_,_,_] w1 1 _ rfl,(by repeat first|exact kp0|apply kp1|apply kp2|apply kp3|apply kp4),(by omega),(by omega),(by omega),(by omega)⟩
 case rest =>
  rename World=>w2;obtain ⟨bx,b,gi,gq,rfl,hbx,hne,HR,HGI,HGQ,HK2,hb1,hbx1,hgi1,hgq1⟩:=hcut;have HBX:=lh hbx;have HW2:=lh (HKB.out.trans (HK1.out.trans HK2.out));have HKG:=lh (HK1.out.trans HK2.out);have hb2:=HR.out.lt;have hbx2:=block_lt_of_cell hbx;simp only at hbx2;have hgi2:=HGI.out.lt;have hgq2:=HGQ.out.lt;have hz2:=HK2.out.size;clear x0 x1 x2 x3 x4;have x0:=box_cell HKG.out hbs HX0.out;have x1:=box_cell HKG.out hbs HX1.out;have x2:=box_cell HKG.out hbs HX2.out;have x3:=box_cell HKG.out hbs HX3.out;have x4:=box_cell HKG.out hbs HX4.out;have hg02:g0<w2.heap.size:=block_lt_of_cell x0;have hg0b:g0≠b:=by omega
  clear hbx;go_wp2_with (go_at_call 29;refine hold ?_);refine unhold ?_;refine (HSB.out _ HW2.out).mono ?_;rintro e w3 ⟨v3,rfl,ho3,hk3⟩;obtain ⟨A3,c3,rfl,_⟩:=ho3.sl b8_len (by have:=HSL8.out;omega);have HK3:=lh hk3;have HB3:=lh (ho3.base_mono (Nat.zero_le _));clear hk3 ho3 x0 x1 x2 x3 x4 HSB hm1 hm2;have y0:=(HK3.out.cell (p:=⟨bx,0,none⟩) hbx2).trans HBX.out;have hy0:=block_lt_of_cell y0;simp only at hy0;go_wp2_with (go_at_call 30;refine hold ?_);refine unhold ?_;refine (put_secs b w2.heap.size [] _ A3 c3 (SB) _ (HR.out.keep HK3.out) (Own.nil_ _ _ _ _ _) hb2 HK3.out.size (by simp) (fun _ h=>by cases h) HB3.out).mono ?_;rintro e w4 ⟨rfl,o1,hR4,hO4,hS4,hT4,hd4⟩;have HT4:=lh (show Turn w2 w4 [b] from (Turn.keep HK3.out [b]).trans2 hT4 fun i hi=>.inl (by simpa [Value.ownBlock] using hi));have HR4:=lh hR4;have HO4:=lh hO4;have HS4:=lh hS4;clear hR4 hO4 hS4 hT4 hd4 y0 hy0 HB3;have y0:=HT4.out.cell HBX.out (show bx∉[b] by simp;exact fun e=>hne e.symm);have hy0:=block_lt_of_cell y0;simp only at hy0;go_upto_region 7 with fail;generalize hnb:([]++[⟨_,A3,c3,SB⟩]:List Sec)=S1 at HO4 HS4;have HNB1:=lh (show S1.map nbS=[(⟨#[115,99,104,101,109,97]⟩,SB)] from hnb ▸ rfl);have hl1:S1.length=1:=hnb ▸ rfl;have hw0:IntKind.u32.wrap (rows.length:Int)=(rows.length:Int):=by have:=HRL.out;simp [IntKind.wrap,IntKind.signed,IntKind.bits];omega
  clear hnb;go_cut [] from 52 to 57 (fun wx=>∃ o2 S2,Hid (Row wx b 77 (mkC (.slice A nc n) (.int .i64 s0) (.slice iA iv.length ic) (.slice rA rv.length rc) (.slice sA sp.length sc) (.int .i64 lf) (.slice (some ⟨g1,0,none⟩) rows.length rows.length) o2 (.slice (some ⟨gi,0,none⟩) nc nc) (.slice (some ⟨gq,0,none⟩) nc nc) (.slice none 0 0)))∧Hid (OwnC wx w2.heap.size o2 S2)∧Hid (SecsO wx S2) ∧
   Hid (S2.map nbS=[(⟨#[115,99,104,101,109,97]⟩,SB),(⟨#[114,111,119,115]⟩,le rows.length 4)])∧Hid (Turn w2 wx [b]))
  case first =>
   have HZ4:=lh HT4.out.size;go_region_with (first
    | (go_at_call 31
       refine (app32_any none 0 [] rows.length (by have:=HRL.out;omega) _ (Sl.nil_ _ (by decide)) (by simp)).mono ?_;rintro e w5 ⟨v5,rfl,ho5,hk5⟩;obtain ⟨A5,c5,rfl,_⟩:=ho5.sl b8_len (by simp [le_len]);have HB5:=lh (ho5.base_mono (Nat.zero_le _));have HK5:=lh (Keep.trans (show Keep w4 _ from (by repeat first|exact kp0|apply kp1|apply kp2|apply kp3|apply kp4)) hk5);have y5:=(HK5.out.cell (p:=⟨bx,0,none⟩) hy0).trans y0;have hy5:=block_lt_of_cell y5;simp only at hy5;clear ho5 hk5)
    | (go_at_call 30
       refine (put_secs b w2.heap.size S1 _ A5 c5 (le rows.length 4) _ (HR4.out.keep (HK5.out.trans (by repeat first|exact kp0|apply kp1|apply kp2|apply kp3|apply kp4))) (HO4.out.keep (HK5.out.trans (by repeat first|exact kp0|apply kp1|apply kp2|apply kp3|apply kp4))) hb2 (Nat.le_trans HZ4.out (HK5.out.trans (by repeat first|exact kp0|apply kp1|apply kp2|apply kp3|apply kp4)).size) (by omega) (HS4.out.keep (HK5.out.trans (by repeat first|exact kp0|apply kp1|apply kp2|apply kp3|apply kp4))) (HB5.out.keep (by repeat first|exact kp0|apply kp1|apply kp2|apply kp3|apply kp4))).mono ?_;rintro e w6 ⟨rfl,o2,hR6,hO6,hS6,hT6,hd6⟩))
   all_goals
    go_wp2_with fail;go_meet;exact ⟨o2,_,hR6.keep (by repeat first|exact kp0|apply kp1|apply kp2|apply kp3|apply kp4),hO6.keep (by repeat first|exact kp0|apply kp1|apply kp2|apply kp3|apply kp4),hS6.keep (by repeat first|exact kp0|apply kp1|apply kp2|apply kp3|apply kp4),(by show List.map _ _=_;rw [List.map_append,HNB1.out];rfl),((HT4.out.keep_ (HK5.out.trans (by repeat first|exact kp0|apply kp1|apply kp2|apply kp3|apply kp4))).trans2 hT6 fun i hi=>by
     rw [List.mem_cons,Option.mem_toList] at hi
     rcases hi with h|h
     ·exact .inl (by simp [h])
     ·exact .inr (HO4.out.lt _ h).1).keep_ (by repeat first|exact kp0|apply kp1|apply kp2|apply kp3|apply kp4)⟩
  case rest =>
   rename World=>w7;obtain ⟨o2,S2,HR7,HO7,HS7,HNB7,HT7⟩:=hcut;have hne1:1≤nc:=by rw [HNC.out];exact HF.out.may.lo
   have hbgi:bx≠gi:=fun e=>by
    subst e;have:=HGI.out.cell 0 _ (by rw [List.getElem?_replicate,if_pos (by omega)]);rw [HBX.out] at this
    cases this
   have hbgq:bx≠gq:=fun e=>by
    subst e;have:=HGQ.out.cell 0 _ (by rw [List.getElem?_replicate,if_pos (by omega)]);rw [HBX.out] at this
    cases this
   have hgin:gi∉[b]:=fun e=>row_ne HGI.out HR.out (by decide) (by simpa using e);have hgqn:gq∉[b]:=fun e=>row_ne HGQ.out HR.out (by decide) (by simpa using e);have hLl:L.length=rows.length:=by
    have:=congrArg List.length HGV.out
    rwa [sortF_len,List.length_map,List.length_map] at this
   obtain ⟨_,_,eg,hsg⟩:=HGO.out.sl (fun r=>rfl) (by rw [hLl];have:=HRL.out;omega);injection eg with eg1 eg2 eg3;subst eg1;subst eg3;have HSGW:=lh (fun W (hW:Keep w1 W)=>hsg.keep hW);have HRWW:=lh (fun W (hW:Keep w1 W)=>(show RowsAt W L from fun r hr=>((HGN.out r hr).keep hW).sl (by
    have:r.vs∈sortF s0 (rows.map (·.vs)):=HGV.out ▸ List.mem_map_of_mem hr;rw [sortF_mem] at this;obtain ⟨r',hr',e⟩:=List.mem_map.1 this;have:=HRS.out r' hr';rw [← e];omega)))
   have HST7:=lh (show BSt w7 w2.heap.size b gi gq nc (fun o M=>mkC (.slice A nc n) (.int .i64 s0) (.slice iA iv.length ic) (.slice rA rv.length rc) (.slice sA sp.length sc) (.int .i64 lf) (.slice (some ⟨g1,0,none⟩) rows.length rows.length) o (.slice (some ⟨gi,0,none⟩) nc nc) (.slice (some ⟨gq,0,none⟩) nc nc) M) cs ⟨s0,iA,ic,iv,rA,rc,rv,sA,sc,sp,lf⟩ (sortF s0 (rows.map (·.vs))) [(⟨#[115,99,104,101,109,97]⟩,SB),(⟨#[114,111,119,115]⟩,le rows.length 4)] 0 o2 (.slice none 0 0) S2 [] (List.replicate nc (.slice none 0 0)) (List.replicate nc (.int .i64 0)) from
    ⟨HR7.out,HT7.out.row HGI.out hgin,HT7.out.row HGQ.out hgqn,by simp,by simp,HO7.out,HS7.out,Own.nil_ _ _ _ _ _,(fun _ h=>(by cases h)),rfl,by rw [HNB7.out];rfl,fun j hj=>absurd hj (Nat.not_lt_zero _)⟩)
   have HK17:=lh (Turn.after HK2.out HT7.out (fun i hi=>by simp at hi;omega));have HBX7:=lh (HT7.out.cell HBX.out (show bx∉[b] by simp;exact fun e=>hne e.symm));have HB12:=lh hz2;have HBZ7:=lh HT7.out.size;have HLL:=lh hLl;clear hgin hgqn hLl hsg eg2 HR7 HO7 HS7 HNB7 HT7 HR4 HO4 HS4 HT4 HNB1 hw0 y0 hy0 HGO HGN HGI HGQ HR HK3 HK2;have HTB1:=lh (htab.keep (HKB.out.trans HK1.out));have HTT1:=lh (htb.keep (HKB.out.trans HK1.out));generalize hbase0:w2.heap.size=base at *;go_wp2;go_step3;go_wp2;go_loopw [60] (fun va wr=>∃ (i:Nat) (o M:Value) (S:List Sec) (MT:List Ir) (vi vq:List Value),va=.int .i64 i∧i≤nc∧Hid (BSt wr base b gi gq nc (fun o M=>mkC (.slice A nc n) (.int .i64 s0) (.slice iA iv.length ic) (.slice rA rv.length rc) (.slice sA sp.length sc) (.int .i64 lf) (.slice (some ⟨g1,0,none⟩) rows.length rows.length) o (.slice (some ⟨gi,0,none⟩) nc nc) (.slice (some ⟨gq,0,none⟩) nc nc) M) cs ⟨s0,iA,ic,iv,rA,rc,rv,sA,sc,sp,lf⟩ (sortF s0 (rows.map (·.vs))) [(⟨#[115,99,104,101,109,97]⟩,SB),(⟨#[114,111,119,115]⟩,le rows.length 4)] i o M S MT vi vq)∧Hid (Keep w1 wr)∧Hid (wr.cell? ⟨bx,0,none⟩=some (.pointer (some ⟨b,0,none⟩)))∧Hid (base≤wr.heap.size)) (fun va _=>nc-(intOf va).toNat)
   case atStart=>exact ⟨0,_,_,_,_,_,_,rfl,Nat.zero_le _,HST7.out,HK17.out,HBX7.out,HBZ7.out⟩
   case round =>
    clear HST7 HK17 HBX7;obtain ⟨i,o,M,S,MT,vi,vq,rfl,hi,HST,HK,HBXR,HBZ⟩:=hrel
    by_cases hlt:i<nc
    ·
     have hKw:=(HKB.out.trans HK1.out).trans HK.out;have HLW:=lh (HL.out.keep hKw);have y0:=HBXR.out;have hy0:=block_lt_of_cell y0;simp only at hy0;have hda:=dim_any A n cs (i:Int) wr HLW.out;rw [← HNC.out] at hda;have HDA:=lh hda;clear hda hKw;go_wp2_with (go_at_call 32;refine hold ?_);refine unhold ?_;refine HDA.out.mono ?_;rintro e w8 ⟨rfl,hk8⟩;have HST8:=lh (HST.out.keep hk8);have HK8:=lh (HK.out.trans hk8);have hz8:=Nat.le_trans HBZ.out hk8.size;have y1:=(hk8.cell (p:=⟨bx,0,none⟩) hy0).trans y0;have hy1:=block_lt_of_cell y1;simp only at hy1;have HY1:=lh y1;have hfew:=HST8.out.few;simp only [List.length_cons,List.length_nil] at hfew;clear hk8 y0 hy0 HST HK HBXR HDA
     cases hd:dimP cs (i:Int) with
     | false =>
       have hnum:=number_any b base S MT (some ⟨g1,0,none⟩) rows.length i L w8 (by rw [HLL.out];exact HST8.out.row) (by have:=HSGW.out w8 HK8.out;exact this) (HRWW.out w8 HK8.out) (by rw [HLL.out];have:=HRL.out;omega) HST8.out.sec HST8.out.so HST8.out.mt HST8.out.mr hb2 hz8 (by omega) (by omega) w1 HK8.out hb1 HTB1.out (by omega);rw [HLL.out,HGV.out] at hnum;have HNUM:=lh hnum;have HD:=lh hd;clear hnum hd;go_wp2_with (go_at_call 33;refine hold ?_);refine unhold ?_;refine HNUM.out.mono ?_;rintro e w9 ⟨rfl,o',M',A',c',rr,q1,q2,q3,q4,q5,q6,q7⟩;have HT9:=lh q7;have HST9:=lh (HST8.out.number HD.out q1 q2 q3 q4 q5 q6 q7);have hin:∀ x∈b :: (o.ownBlock.toList++M.ownBlock.toList),x=b∨base≤x:=fun x hx=>by
            simp only [List.mem_cons,List.mem_append,Option.mem_toList] at hx
            rcases hx with h|h|h
            ·exact .inl h
            ·exact .inr (HST8.out.sec.lt x h).1
            ·exact .inr (HST8.out.mt.lt x h).1
       have HK9:=lh (Turn.after HK8.out q7 fun x hx=>by rcases hin x hx with h|h<;>omega);have HY9:=lh (q7.cell HY1.out (fun hx=>by rcases hin bx hx with h|h<;>omega));have HZ9:=lh (Nat.le_trans hz8 q7.size);clear q1 q2 q3 q4 q5 q6 q7 hin y1 hy1 HNUM HST8 HK8;go_wp2;go_roundw
       case rel=>exact ⟨i+1,_,_,_,_,_,_,by go_num,by omega,HST9.out,HK9.out,HY9.out,HZ9.out⟩
       case measure=>simp [intOf];omega
     | true =>
       have hics:i<cs.length:=by rw [← HNC.out];exact hlt
       have hKw8:=(HKB.out.trans HK1.out).trans HK8.out;have hwz:w.heap.size≤w1.heap.size:=(HKB.out.trans HK1.out).size;have hdim:=mdim_any b base gi gq S cs A (some ⟨g1,0,none⟩) n rows.length i L s0 iA rA ic rc iv rv vi vq w8 (HL.out.keep hKw8) (HSGW.out w8 HK8.out) (HRWW.out w8 HK8.out) (by rw [HLL.out];exact HRL.out) (HCF.out.i.keep hKw8) (HCF.out.r.keep hKw8) hics (by omega) (by rw [← HNC.out,HST8.out.li,HST8.out.lq,HLL.out];exact HST8.out.row) HST8.out.ri HST8.out.rq (by rw [HST8.out.li];exact hlt) (by rw [HST8.out.lq];exact hlt) HST8.out.sec HST8.out.so hb2 hgi2 hgq2 hz8 (by omega) w1 HK8.out ⟨hb1,hgi1,hgq1⟩ HTB1.out HTT1.out (by rw [HGV.out];exact terr_sort s0 HTE.out i hics)
            (fun bb off e=>by have h1:=HI.out bb off e;have h2:=HB12.out;exact ⟨by simp;omega,by omega⟩) (fun bb off e=>by have h1:=HRA.out bb off e;have h2:=HB12.out;exact ⟨by simp;omega,by omega⟩)
       rw [HLL.out,HGV.out,HST8.out.li,HST8.out.lq,← HNC.out] at hdim;have HDIM:=lh hdim;have HD:=lh hd;have HE1:=lh (show cs.getD i default=cs[i] by rw [List.getD_eq_getElem?_getD,List.getElem?_eq_getElem hics];rfl);clear hdim hd hKw8 hwz;go_wp2_with (go_at_call 34;refine hold ?_);refine unhold ?_;refine HDIM.out.mono ?_;rintro e w9 ⟨rfl,o',S',X',q1,q2,⟨gX,cX,q3⟩,q4,q5,q6,q7,q8,q9⟩;have hln:(sortF s0 (rows.map (·.vs))).length=rows.length:=by rw [sortF_len,List.length_map]
       have HST9:=lh (HST8.out.dim HD.out hlt hgi2 hgq2 hz8 q1 q2 (by rw [hln];exact q3) q4 q5 q6 q7 (by rw [q8,HE1.out,hln]) q9);have hin:∀ x∈b :: gi :: gq :: o.ownBlock.toList,x=b∨x=gi∨x=gq∨base≤x:=fun x hx=>by
            simp only [List.mem_cons,Option.mem_toList] at hx
            rcases hx with h|h|h|h
            ·exact .inl h
            ·exact .inr (.inl h)
            ·exact .inr (.inr (.inl h))
            ·exact .inr (.inr (.inr (HST8.out.sec.lt x h).1))
       have HK9:=lh (Turn.after HK8.out q9 fun x hx=>by rcases hin x hx with h|h|h|h<;>omega);have HY9:=lh (q9.cell HY1.out (fun hx=>by rcases hin bx hx with h|h|h|h<;>omega));have HZ9:=lh (Nat.le_trans hz8 q9.size);clear q1 q2 q3 q4 q5 q6 q7 q8 q9 hin y1 hy1 HDIM HST8 HK8 hln;go_wp2;go_roundw
       case rel=>exact ⟨i+1,_,_,_,_,_,_,by go_num,by omega,HST9.out,HK9.out,HY9.out,HZ9.out⟩
       case measure=>simp [intOf];omega
    ·have hie:i=nc:=by omega
     have hfew:=HST.out.few;simp only [List.length_cons,List.length_nil] at hfew;have y3:=box_cell (HK1.out.trans HK.out) hbs HX3.out;have hg03:=block_lt_of_cell y3;simp only at hg03;have y0:=HBXR.out;have hy0:=block_lt_of_cell y0;simp only at hy0;have hln:(sortF s0 (rows.map (·.vs))).length=rows.length:=by rw [sortF_len,List.length_map]
     by_cases hsp:sp=[]
     ·subst hsp;have hnb:S.map nbS=imgG cs ⟨s0,iA,ic,iv,rA,rc,rv,sA,sc,[],lf⟩ (sortF s0 (rows.map (·.vs))):=by
            rw [HST.out.nb,hie,HNC.out];simp only [imgG,if_true,List.append_nil];rw [HSE.out,hln]
      have HNB:=lh hnb;obtain ⟨A9,c9,rfl,hsl9⟩:=HST.out.sec.sl sec_len (by omega);have HSL:=lh hsl9;have HSP:=lh (HSH.out S hnb);have HSA:=lh (HST.out.so.at_ fun s hs=>by
            obtain ⟨q,hq,rfl⟩:=List.getElem_of_mem hs;have:=HSP.out.small q hq;omega)
      have x7:=HST.out.row.cell 7 _ rfl;have hb9:=HST.out.row.lt;have HKE:=lh ((HKB.out.trans HK1.out).trans HK.out);clear hsl9 hnb hln;go_wp2_with (go_at_call 38;refine hold ?_);refine unhold ?_;refine (write_any A9 c9 S _ HSL.out HSA.out HSP.out).mono ?_;rintro e wa ⟨v,rfl,hov,hka⟩;have HKA:=lh (HKE.out.trans hka);have HOV:=lh (hov.base_mono (base':=w.heap.size) HKE.out.size);clear hov hka;go_wp2;rw [Exit.noGoto_ret];exact bodyPost_ret (v:=.tuple #[v,.int .i64 0]) (by simp [results,Tryz.results9,go_sem]) rfl ⟨v,S,rfl,HNB.out,HSP.out,HOV.out,HKA.out⟩
     ·have hs1:1≤sp.length:=List.length_pos_iff.2 hsp;have hs8:sp.length≤8:=HF.out.few;rw [hie] at HST;obtain ⟨L0,hL0,hsplit,hirat,hxs,hok⟩:=HST.out.split HNC.out HF.out (by rw [hln];exact HRL.out) hsp;rw [hln] at hok;have HSPL:=lh hsplit;have HIR:=lh hirat;have HXS:=lh hxs;have HOK:=lh hok;clear hsplit hirat hxs hok;go_upto_region 18 with fail;obtain ⟨wd,hwd⟩:∃ wd,wd=wr:=⟨_,rfl⟩;subst hwd;have y4:=box_cell (HK1.out.trans HK.out) hbs HX4.out;go_upto_region 21 with fail;obtain ⟨gs,hgs⟩:∃ g,g=wd.heap.size:=⟨_,rfl⟩;obtain ⟨gm,hgm⟩:∃ g,g=wd.heap.size+1:=⟨_,rfl⟩;have hS0:Row ((wd.alloc (.cells #[.slice none 0 0] 49)).alloc (.cells #[.slice none 0 0] 24)) gs 49 [.slice none 0 0]:=by rw [hgs];exact allocs_at [_,_] wd 0 _ rfl
      have hM0:Row ((wd.alloc (.cells #[.slice none 0 0] 49)).alloc (.cells #[.slice none 0 0] 24)) gm 24 [.slice none 0 0]:=by rw [hgm];exact allocs_at [_,_] wd 1 _ rfl
      have hkS:Keep wd ((wd.alloc (.cells #[.slice none 0 0] 49)).alloc (.cells #[.slice none 0 0] 24)):=(by repeat first|exact kp0|apply kp1|apply kp2|apply kp3|apply kp4);have hzS:((wd.alloc (.cells #[.slice none 0 0] 49)).alloc (.cells #[.slice none 0 0] 24)).heap.size=wd.heap.size+2:=by simp [go_sem]
      have ewd:wd.heap.size=gs:=hgs.symm;have ewm:wd.heap.size+1=gm:=hgm.symm;have HGS:=lh hgs;have HGM:=lh hgm;generalize hwS:World.alloc (World.alloc wd _) _=wS at hS0 hM0 hkS hzS ⊢;rw [ewm,ewd] at ⊢;have HS0:=lh hS0;have HM0:=lh hM0;have HKS:=lh hkS;have HZS:=lh hzS;have z3:=(hkS.cell (p:=⟨g0,3,none⟩) hg03).trans y3;have hgz:g0<wS.heap.size:=block_lt_of_cell z3;clear hwS hS0 hM0 hkS hzS ewd ewm hgs hgm y4 y3 hg03 y0 hy0;go_wp2;go_loopw [85] (fun va wr=>∃ (j:Nat) (As Am:Option Addr) (c8 c9:Nat),va=.int .i64 j∧j≤sp.length∧Hid (Row wr gs 49 [.slice As j c8])∧Hid (Row wr gm 24 [.slice Am j c9])∧Hid (OwnSp wr wS.heap.size (.slice As j c8) (L0.take j))∧Hid (OwnMy wr wS.heap.size (.slice Am j c9) ((manyG ⟨s0,iA,ic,iv,rA,rc,rv,sA,sc,sp,lf⟩ (sortF s0 (rows.map (·.vs)))).take j))∧Hid (Keep wd wr)∧Hid (wS.heap.size≤wr.heap.size)) (fun va _=>sp.length-(intOf va).toNat)
      case atStart=>exact ⟨0,none,none,0,0,rfl,Nat.zero_le _,HS0.out,HM0.out,Own.nil_ _ _ _ _ _,Own.nil_ _ _ _ _ _,HKS.out,Nat.le_refl _⟩
      case round =>
            clear HS0 HM0 HKS z3 hgz;obtain ⟨j,As,Am,c8,c9,rfl,hj,HRS0,HRM0,HOS,HOM,HKD,HZD⟩:=hrel
            by_cases hjl:j<sp.length
            ·have hL1:L0.length=sp.length:=hL0;have hjL:j<L0.length:=by omega
             obtain ⟨p,hp,hpn,hvi,hvq,hmq⟩:=HSPL.out j hjl hjL;have hKw:Keep w wr:=((HKB.out.trans HK1.out).trans HK.out).trans HKD.out;have hsl:Sl wr 1 i64V sA sc sp:=HCF.out.s.keep hKw;obtain ⟨bS,offS,hsA,hbS,hc0⟩:=sl_i64 hsl j hjl;have hp1:sp[j]=(p:Int):=hp;rw [hp1] at hc0;obtain ⟨hjm,hme⟩:=List.getElem?_eq_some_iff.1 hmq;have hlj:(L0.take j).length=j:=by rw [List.length_take];omega
             have hmj:((manyG ⟨s0,iA,ic,iv,rA,rc,rv,sA,sc,sp,lf⟩ (sortF s0 (rows.map (·.vs)))).take j).length=j:=by rw [List.length_take];omega
             have hzS:=HZS.out;have hgs:=HGS.out;have hgm:=HGM.out;have hadd:=add_any b bx gs gm gi gq wS.heap.size p nc nc (L0.take j) ((manyG ⟨s0,iA,ic,iv,rA,rc,rv,sA,sc,sp,lf⟩ (sortF s0 (rows.map (·.vs)))).take j) As Am c8 c9 L0[j] _ vi vq wr (HST.out.row.keep HKD.out) ((HKD.out.cell (p:=⟨bx,0,none⟩) (block_lt_of_cell HBXR.out)).trans HBXR.out)
              (by rw [hlj];exact HRS0.out) (by rw [hmj];exact HRM0.out) (HST.out.ri.keep HKD.out) (HST.out.rq.keep HKD.out) hpn hpn hvi hvq (by rw [hlj];exact HOS.out) (by rw [hmj];exact HOM.out)
              (by
                have h1:=HST.out.row.lt;have h2:=HST.out.ri.lt;have h3:=HST.out.rq.lt;have h4:=block_lt_of_cell HBXR.out;simp only at h4;omega) HZD.out (by omega) (by omega) (by omega) (by have h2:=HST.out.ri.lt;omega)
             rw [hlj,hmj] at hadd;have HADD:=lh hadd;have HTK:=lh (show L0.take (j+1)=L0.take j++[L0[j]] from List.take_succ_eq_append_getElem hjL);have htm:=List.take_succ_eq_append_getElem hjm;rw [hme] at htm;have HTM:=lh htm;have HSA:=lh hsA;clear hadd hlj hmj htm hme hjm hp hp1 hvi hvq hmq hzS hgs hgm hL1;subst hsA;go_wp2_with (go_at_call 35;refine hold ?_);refine unhold ?_;refine HADD.out.mono ?_;rintro e w9 ⟨rfl,A',c',A2,c2,q1,q2,q3,q4,q5⟩;have HQ1:=lh q1;have HQ2:=lh q2;have HQ3:=lh q3;have HQ4:=lh q4;have HK9:=lh (Turn.after HKD.out q5 fun x hx=>by
              have h1:=HZS.out;have h2:=HGS.out;have h3:=HGM.out;simp only [List.mem_cons,List.mem_append,Option.mem_toList] at hx
              rcases hx with h|h|h|h
              ·omega
              ·omega
              ·have:=(HOS.out.lt x h).1;omega
              ·have:=(HOM.out.lt x h).1;omega)
             have HZ9:=lh (Nat.le_trans HZD.out q5.size);clear q1 q2 q3 q4 q5 HADD hc0 hbS;go_wp2;go_roundw
             case rel=>exact ⟨j+1,A',A2,c',c2,by go_num,by omega,HQ1.out,HQ2.out,(by show OwnSp _ _ _ _;rw [HTK.out];exact HQ3.out),(by show OwnMy _ _ _ _;rw [HTM.out];exact HQ4.out),HK9.out,HZ9.out⟩
             case measure=>simp [intOf];omega
            ·have hje:j=sp.length:=by omega
             subst hje;have hL1:L0.length=sp.length:=hL0;have hG1:(manyG ⟨s0,iA,ic,iv,rA,rc,rv,sA,sc,sp,lf⟩ (sortF s0 (rows.map (·.vs)))).length=sp.length:=by simp [manyG]
             have hy3:=HRS0.out.cell 0 _ rfl;have hy4:=HRM0.out.cell 0 _ rfl;have hy5:=HRS0.out.lt;have hy6:=HRM0.out.lt;rw [show L0.take sp.length=L0 by rw [← hL1];exact List.take_length] at HOS;rw [show (manyG ⟨s0,iA,ic,iv,rA,rc,rv,sA,sc,sp,lf⟩ (sortF s0 (rows.map (·.vs)))).take sp.length=manyG ⟨s0,iA,ic,iv,rA,rc,rv,sA,sc,sp,lf⟩ (sortF s0 (rows.map (·.vs))) by rw [← hG1];exact List.take_length] at HOM;obtain ⟨C,cm,hMv⟩:=own_form HST.out.mt;subst hMv;obtain ⟨leaf,hleaf⟩:∃ leaf:Nat,lf=(leaf:Int):=⟨lf.toNat,by have:=HF.out.lo;simp only at this;omega⟩;have hlo:1≤leaf:=by have:=HF.out.lo;simp only at this;omega
             have hhi:leaf≤1000000:=by have:=HF.out.hi;simp only at this;omega
             subst hleaf;have HSOF:=lh (fun W (hW:Keep wr W)=>HST.out.sof hL0 HIR.out (by rw [hln];exact HOK.out) (by omega) (by rw [hln];exact HRL.out) rfl (HKD.out.trans hW) (HOS.out.keep hW) (HOM.out.keep hW) HF.out.few hlo hhi rfl);rw [hln] at HSOF;dsimp only at HSOF;have HG1:=lh hG1;have HL1:=lh hL1;have y7:=(HKD.out.cell (p:=⟨bx,0,none⟩) (block_lt_of_cell HBXR.out)).trans HBXR.out;have hy7:=block_lt_of_cell y7;simp only at hy7;have y8:=(HST.out.row.keep HKD.out).cell 10 _ rfl;have hy8:=(HST.out.row.keep HKD.out).lt;have y4:=box_cell ((HK1.out.trans HK.out).trans HKD.out) hbs HX4.out;have hy4b:=block_lt_of_cell y4;simp only at hy4b;clear hG1 hL1;go_upto_region 26 with fail;have HTREE:=lh (star_tree (leaf:=leaf) HXS.out (by rw [← HNC.out];exact HST.out.mx) rfl hln rfl);have HFEW:=lh (Star.grow_few leaf sp.length hlo hs8 (Star.togF (srcF L0 MT rows.length)) (Nat.le_trans (tog_len64 HRL.out) (by decide)));have HKIDS:=lh (grow_kids leaf sp.length hlo hs8 (Star.togF (srcF L0 MT rows.length)) (tog_len64 HRL.out));have HIMG:=lh (show S.map nbS++[(⟨#[115,116,97,114]⟩,starG cs ⟨s0,iA,ic,iv,rA,rc,rv,sA,sc,sp,leaf⟩ (sortF s0 (rows.map (·.vs))))]=imgG cs ⟨s0,iA,ic,iv,rA,rc,rv,sA,sc,sp,leaf⟩ (sortF s0 (rows.map (·.vs))) by
              rw [HST.out.nb,HNC.out];simp only [imgG];rw [if_neg hsp,HSE.out,hln])
             have HSTL:=lh (show (starG cs ⟨s0,iA,ic,iv,rA,rc,rv,sA,sc,sp,leaf⟩ (sortF s0 (rows.map (·.vs)))).length≤1073741824 by
              have h:=HSH.out (S++[⟨⟨#[115,116,97,114]⟩,none,0,starG cs ⟨s0,iA,ic,iv,rA,rc,rv,sA,sc,sp,leaf⟩ (sortF s0 (rows.map (·.vs)))⟩]) (by rw [List.map_append];exact HIMG.out);have h2:=h.small S.length (by simp)
              simpa using h2)
             dsimp only at HTREE;generalize starG cs ⟨s0,iA,ic,iv,rA,rc,rv,sA,sc,sp,leaf⟩ (sortF s0 (rows.map (·.vs)))=SG at HTREE HIMG HSTL;generalize hPS:(Star.growF leaf sp.length 0 0 (Star.togF (srcF L0 MT rows.length)).length false (Star.togF (srcF L0 MT rows.length)) 0).1=PS at HSOF HTREE HFEW;generalize hNS:(Star.growF leaf sp.length 0 0 (Star.togF (srcF L0 MT rows.length)).length false (Star.togF (srcF L0 MT rows.length)) 0).2=NS at HSOF HTREE HFEW HKIDS;have HPS:=lh hPS;have HNS:=lh hNS;clear hPS hNS;go_cut [20,21] from 93 to 105 (fun s20 s21 wx=>Hid (StarG sp.length MT.length leaf PS NS s20 wx)∧s21=.int .i64 0∧Hid (Keep wr wx))
             case first =>
              first|refine Zone.wp_region_gro 14 (by kernel_rfl) (by kernel_rfl) ?_|refine Zone.wp_region 14 (by kernel_rfl) (by kernel_rfl) ?_
              simp only [List.take_succ_cons,List.take_zero,List.drop_succ_cons,List.drop_zero]
              repeat
               refine Zone.wpZ_step (fun K hK=>?_);go_simp
               first
               | (refine hK _ _ ?_;clear hK K)
               | (apply Exists.intro
                  refine ⟨fun p=>?_,hK _ _ ?_⟩
                  (fail)
                  clear hK K)
              refine Zone.wpZ_free 102 (StarT sp.length MT.length leaf PS NS) rfl StarT.mono ?_ ?_
              ·intro p;simp only [Zone.fill,Zone.lookFs,List.filter_nil];go_simp;go_at_call 36;have hk5:Keep wr (wr.gro p):=Keep.gro (Keep.refl _) _;refine (HSOF.out _ hk5).mono ?_;rintro e w8 ⟨gt,vr,vn,P,N,rfl,hst,hP,hN,hk8⟩;exact ⟨_,rfl,⟨gt,rfl,_,vr,vn,P,N,hst,hP,hN⟩,hk8⟩
              simp only [Zone.dropFs,List.filter_nil];refine Zone.wpZ_free 93 (StarT sp.length MT.length leaf PS NS) rfl StarT.mono ?_ ?_
              ·refine sfree1 (d:=102) (by rfl) (fun p v hv=>?_);obtain ⟨gt,rfl,hst⟩:=hv;rw [if_pos (by rfl)];go_simp
               (first|exact ⟨⟨gt,rfl,hst⟩,Keep.refl _⟩|exact ⟨gt,⟨rfl,hst⟩,Keep.refl _⟩|exact ⟨gt,rfl,hst⟩|exact 0)
              refine Zone.wpZ_free 103 (StarG sp.length MT.length leaf PS NS) rfl StarG.mono ?_ ?_
              ·refine sfree1 (d:=93) (by rfl) (fun p v hv=>?_);obtain ⟨gt,rfl,hst⟩:=hv;rw [if_pos (by rfl)];go_simp
               (first|exact ⟨⟨gt,rfl,hst⟩,Keep.refl _⟩|exact ⟨gt,⟨rfl,hst⟩,Keep.refl _⟩|exact ⟨gt,rfl,hst⟩|exact 0)
              refine Zone.wpZ_free 104 (fun u _=>u=.int .i64 0) rfl (fun _ _ _ _ h=>h) ?_ ?_
              ·refine sfree1 (d:=93) (by rfl) (fun p v hv=>?_);obtain ⟨gt,rfl,hst⟩:=hv;rw [if_pos (by rfl)];go_simp
              refine Zone.wpZ_free 20 (StarG sp.length MT.length leaf PS NS) rfl StarG.mono ?_ ?_
              ·refine sfree1 (d:=103) (by rfl) (fun p v hv=>?_);obtain ⟨gt,rfl,hst⟩:=hv;rw [if_pos (by rfl)];go_simp
               (first|exact ⟨⟨gt,rfl,hst⟩,Keep.refl _⟩|exact ⟨gt,⟨rfl,hst⟩,Keep.refl _⟩|exact ⟨gt,rfl,hst⟩|exact 0)
              refine Zone.wpZ_free 21 (fun u _=>u=.int .i64 0) rfl (fun _ _ _ _ h=>h) ?_ ?_
              ·refine sfree1 (d:=104) (by rfl) (fun p v hv=>?_);subst hv;rw [if_pos (by rfl)];go_simp
              refine Zone.wpZ_nil ?_;intro p;simp only [Zone.fill];rintro v21 rfl v20 hv20 v104 _ v103 _ v93 _ v102 _;go_simp;go_wp2_with fail;go_meet;exact ⟨hv20,rfl,Keep.gro (Keep.refl _) _⟩
             case rest =>
              rename World=>w8;obtain ⟨HS20,rfl,HK8⟩:=hcut;obtain ⟨gt,rfl,lo,vr,vn,P,N,hsat,hPe,hNe⟩:=HS20.out;have hPl:P.length≤1000000:=by rw [← List.length_map (f:=fun p:Rc × Star.SR=>p.2),hPe];exact HFEW.out.1
              have hNl:N.length≤1000000:=by rw [← List.length_map (f:=fun p:Nc × Star.SN=>p.2),hNe];exact HFEW.out.2
              have hMl:MT.length≤256:=by have:=hfew.2;omega
              have HBY:=lh (fun W (hW:Keep w8 W)=>by
               have h:=stbytes_any gt lo sp.length MT.length leaf vr vn P N W (hsat.keep hW) hs1 hs8 hMl hPl hNl (fun p hp=>HKIDS.out p.2 (by rw [← hNe];exact List.mem_map_of_mem hp));rw [hPe,hNe,HTREE.out] at h;exact h)
              have HST8:=lh (HST.out.keep (HKD.out.trans HK8.out));clear HS20 hsat hPe hNe hPl hNl y4 hy4b y8 hy8 hy3 hy4 hy5 hy6;have y9:=(HK8.out.cell (p:=⟨bx,0,none⟩) hy7).trans y7;have hy9:=block_lt_of_cell y9;simp only at hy9;clear y7 hy7;go_upto_region 29 with fail;go_cut [] from 108 to 112 (fun wx=>∃ o3 S3,Hid (Row wx b 77 (mkC (.slice A nc n) (.int .i64 s0) (.slice iA iv.length ic) (.slice rA rv.length rc) (.slice sA sp.length sc) (.int .i64 leaf) (.slice (some ⟨g1,0,none⟩) rows.length rows.length) o3 (.slice (some ⟨gi,0,none⟩) nc nc) (.slice (some ⟨gq,0,none⟩) nc nc) (.slice C MT.length cm)))∧Hid (OwnC wx base o3 S3)∧Hid (SecsO wx S3)∧Hid (S3.map nbS=S.map nbS++[(⟨#[115,116,97,114]⟩,SG)])∧Hid (Turn w8 wx (b :: o.ownBlock.toList)))
              case first =>
               have HZ8:=lh (Nat.le_trans HBZ.out (HKD.out.trans HK8.out).size);go_region_with (first
                | (go_at_call 37
                   refine (HBY.out _ (by repeat first|exact kp0|apply kp1|apply kp2|apply kp3|apply kp4)).mono ?_;rintro e wy ⟨vy,rfl,hoy,hky⟩;obtain ⟨Ay,cy,rfl,_⟩:=hoy.sl b8_len (by have:=HSTL.out;omega);have HBYY:=lh (hoy.base_mono (Nat.zero_le _));have HKY:=lh (Keep.trans (show Keep w8 _ from (by repeat first|exact kp0|apply kp1|apply kp2|apply kp3|apply kp4)) hky);have yy:=(HKY.out.cell (p:=⟨bx,0,none⟩) hy9).trans y9;have hyy:=block_lt_of_cell yy;simp only at hyy;clear hoy hky)
                | (go_at_call 30
                   refine (put_secs b base S _ Ay cy SG _ (HST8.out.row.keep (HKY.out.trans (by repeat first|exact kp0|apply kp1|apply kp2|apply kp3|apply kp4))) (HST8.out.sec.keep (HKY.out.trans (by repeat first|exact kp0|apply kp1|apply kp2|apply kp3|apply kp4))) hb2 (Nat.le_trans HZ8.out (HKY.out.trans (by repeat first|exact kp0|apply kp1|apply kp2|apply kp3|apply kp4)).size) (by omega) (HST8.out.so.keep (HKY.out.trans (by repeat first|exact kp0|apply kp1|apply kp2|apply kp3|apply kp4))) (HBYY.out.keep (by repeat first|exact kp0|apply kp1|apply kp2|apply kp3|apply kp4))).mono ?_;rintro e wz ⟨rfl,o3,hR6,hO6,hS6,hT6,hd6⟩))
               all_goals
                go_wp2_with fail;go_meet;exact ⟨o3,_,hR6.keep (by repeat first|exact kp0|apply kp1|apply kp2|apply kp3|apply kp4),hO6.keep (by repeat first|exact kp0|apply kp1|apply kp2|apply kp3|apply kp4),hS6.keep (by repeat first|exact kp0|apply kp1|apply kp2|apply kp3|apply kp4),(by show List.map _ _=_;rw [List.map_append];rfl),((Turn.keep (HKY.out.trans (by repeat first|exact kp0|apply kp1|apply kp2|apply kp3|apply kp4)) (b :: o.ownBlock.toList)).trans hT6).keep_ (by repeat first|exact kp0|apply kp1|apply kp2|apply kp3|apply kp4)⟩
              case rest =>
               rename World=>w9;obtain ⟨o3,S3,HR9,HO9,HS9,HNB9,HT9⟩:=hcut;have HNBI:=lh (HNB9.out.trans HIMG.out);have HSP:=lh (HSH.out S3 HNBI.out);have hs3l:=HSP.out.few;obtain ⟨A9,c9,rfl,hsl9⟩:=HO9.out.sl sec_len (by omega);have HSL:=lh hsl9;have HSA:=lh (HS9.out.at_ fun s hs=>by
                obtain ⟨q,hq,rfl⟩:=List.getElem_of_mem hs;have:=HSP.out.small q hq;omega)
               have x7:=HR9.out.cell 7 _ rfl;have hb9:=HR9.out.lt;have z9:=HT9.out.cell y9 (fun hx=>by
                simp only [List.mem_cons,Option.mem_toList] at hx
                rcases hx with h|h
                ·exact hne h.symm
                ·have:=(HST8.out.sec.lt bx h).1;omega)
               have hz9:=block_lt_of_cell z9;simp only at hz9;have HKE:=lh (Turn.after ((((HKB.out.trans HK1.out).trans HK.out).trans HKD.out).trans HK8.out) HT9.out (fun x hx=>by
                have h1:=(HKB.out.trans HK1.out).size;have h2:=HK.out.size;have h3:=HB12.out;simp only [List.mem_cons,Option.mem_toList] at hx
                rcases hx with h|h
                ·omega
                ·have:=(HST8.out.sec.lt x h).1;omega))
               clear hsl9 y9 hy9;go_wp2_with (go_at_call 38;refine hold ?_);refine unhold ?_;refine (write_any A9 c9 S3 _ HSL.out HSA.out HSP.out).mono ?_;rintro e wa ⟨v,rfl,hov,hka⟩;have HKA:=lh (HKE.out.trans hka);have HOV:=lh (hov.base_mono (base':=w.heap.size) HKE.out.size);clear hov hka;go_wp2;rw [Exit.noGoto_ret];exact bodyPost_ret (v:=.tuple #[v,.int .i64 0]) (by simp [results,Tryz.results9,go_sem]) rfl ⟨v,S3,rfl,HNBI.out,HSP.out,HOV.out,HKA.out⟩
end Go.Proofs.YtpkocnpamcchcaaGreatDoor
