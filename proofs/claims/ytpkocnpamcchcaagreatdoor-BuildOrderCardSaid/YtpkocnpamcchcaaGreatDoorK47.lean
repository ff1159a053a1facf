/- Parts of the proof. -/
import Derived.Test.YtpkocnpamcchcaaGreatDoorK46
set_option maxRecDepth 100000
set_option maxHeartbeats 4000000
set_option linter.unusedSimpArgs false
set_option linter.unusedVariables false
set_option linter.unnecessarySimpa false
namespace Go.Proofs.YtpkocnpamcchcaaGreatDoor
open Go.RowKit Go.Zone Go.Shelf
attribute [local go_sem] zone stepZ fill lookFs goes goesUpon dropFs cell_gro frozen_gro size_gro lt_add drew_gro tape_gro keep_refl
attribute [local go_sem] lt_add2 lt_add3 lt_add4 lt_add5 lt_add6 lt_add7 lt_add8 lt_add9 lt_add10 lt_add11 lt_add12
noncomputable def bErr(cs:List Col)(c:Cfg)(rows:List (List Val)):Int:=if pB (Fits cs c)=true then tErr cs rows else 2
theorem tErr_any(cs:List Col)(rows:List (List Val)):tErr cs rows=0∨tErr cs rows=2∨tErr cs rows=3∨tErr cs rows=9:=by
 unfold tErr
 split<;>(try split)<;>(try split)<;>(try split)<;>simp
theorem tsort_no(A B:Option Addr)(n m:Nat)(cs:List Col)(c:Cfg)(rows:List Rw)(w:World)(h:Sl w 2 Col.cells A n cs)(hz:∀ x∈cs,x.name.size≤140737488355328)(hc:CfgAt w c)
 (hr:Sl w 1 Rw.cells B m rows) (hra:RowsAt w rows) (he:bErr cs c (rows.map (·.vs))≠0) :
 Calls Tryz.prog 28 #[.slice A cs.length n,c.v,.slice B rows.length m] w fun e w'=>e=.returned (.tuple #[.slice none 0 0,.int .i64 (bErr cs c (rows.map (·.vs)))])∧Keep w w':=by
 have HF:=lh (fun W (hW:Keep w W)=>fits_any A n cs c W (h.keep hW) hz (hc.keep hW));have HM:=lh (fun W (hW:Keep w W)=>tmay_any A B n m cs rows W (h.keep hW) hz (hr.keep hW) (hra.keep hW));have ht:=tErr_any cs (rows.map (·.vs));unfold bErr at he ⊢;generalize tErr cs (rows.map (·.vs))=t at ht he HM ⊢;generalize hq:pB (Fits cs c)=q at he HF ⊢;clear hq;obtain ⟨s0,iA,ic,iv,rA,rc,rv,sA,sc,sp,lf⟩:=c;simp only [Cfg.v];clear h hc hr hra;go_enter Tryz.func28,Tryz.ntmps28;go_upto_region 1 with fail;have hB:BoxA w (w.alloc (.cells #[.int .i64 s0,.slice iA iv.length ic,.slice rA rv.length rc,.slice sA sp.length sc,.int .i64 lf] 26)) [.int .i64 s0,.slice iA iv.length ic,.slice rA rv.length rc,.slice sA sp.length sc,.int .i64 lf]:=BoxA.start (t:=26) (Keep.refl _);generalize hwb:World.alloc w _=wb at hB ⊢;have hbs:=hB.lt;have x0:=hB.at_ 0 _ rfl;have x1:=hB.at_ 1 _ rfl;have x2:=hB.at_ 2 _ rfl;have x3:=hB.at_ 3 _ rfl;have x4:=hB.at_ 4 _ rfl;have HKB:=lh hB.keep;clear hwb hB;generalize w.heap.size=g0 at hbs x0 x1 x2 x3 x4 ⊢;go_wp2_with (go_at_call 55;refine hold ?_);refine unhold ?_;refine (HF.out _ HKB.out).mono ?_;rintro e w0 ⟨rfl,hk0⟩;have HK0:=lh (HKB.out.trans hk0);clear x0 x1 x2 x3 x4 HF hk0
 cases q
 ·go_wp2;exact bodyPost_ret (v:=.tuple #[.slice none 0 0,.int .i64 2]) (by simp [results,Tryz.results28,go_sem]) rfl ⟨rfl,HK0.out⟩
 ·rw [if_pos rfl] at he;go_wp2_with (go_at_call 59;refine hold ?_);refine unhold ?_;refine (HM.out _ HK0.out).mono ?_;rintro e w1 ⟨rfl,hk1⟩;have HK1:=lh (HK0.out.trans hk1);clear hk1 HM
  rcases ht with rfl|rfl|rfl|rfl
  ·exact absurd rfl he
  all_goals
   go_wp2;exact bodyPost_ret (v:=.tuple #[.slice none 0 0,.int .i64 _]) (by simp [results,Tryz.results28,go_sem]) rfl ⟨rfl,HK1.out⟩
theorem build_no(cs:List Col)(c:Cfg)(A B:Option Addr)(n m:Nat)(rows:List Rw)(w:World)(h:Sl w 2 Col.cells A n cs)(hz:∀ x∈cs,x.name.size≤140737488355328)
 (hc:CfgAt w c) (hr:Sl w 1 Rw.cells B m rows) (hra:RowsAt w rows) (he:bErr cs c (rows.map (·.vs))≠0) :
 Calls Tryz.prog 9 #[.slice A cs.length n,c.v,.slice B rows.length m] w fun e w'=>e=.returned (.tuple #[.slice none 0 0,.int .i64 (bErr cs c (rows.map (·.vs)))])∧Keep w w':=by
 have HSO:=lh (fun W (hW:Keep w W)=>tsort_no A B n m cs c rows W (h.keep hW) hz (hc.keep hW) (hr.keep hW) (hra.keep hW) he);have ht:bErr cs c (rows.map (·.vs))=2∨bErr cs c (rows.map (·.vs))=3∨bErr cs c (rows.map (·.vs))=9:=by
  have:=tErr_any cs (rows.map (·.vs));unfold bErr at he ⊢
  split at he
  ·rename_i hq;rw [if_pos hq]
   rcases this with h|h|h|h
   ·exact absurd h he
   all_goals simp [h]
  ·rename_i hq;rw [if_neg hq];exact .inl rfl
 generalize bErr cs c (rows.map (·.vs))=t at ht he HSO ⊢;clear h hz hc hr hra;obtain ⟨s0,iA,ic,iv,rA,rc,rv,sA,sc,sp,lf⟩:=c;simp only [Cfg.v] at HSO ⊢;go_enter Tryz.func9,Tryz.ntmps9;go_wp2;go_step3;have hB:BoxA w (w.alloc (.cells #[.int .i64 s0,.slice iA iv.length ic,.slice rA rv.length rc,.slice sA sp.length sc,.int .i64 lf] 26)) [.int .i64 s0,.slice iA iv.length ic,.slice rA rv.length rc,.slice sA sp.length sc,.int .i64 lf]:=BoxA.start (t:=26) (Keep.refl _);generalize hwb:World.alloc w _=wb at hB ⊢;have hbs:=hB.lt;have x0:=hB.at_ 0 _ rfl;have x1:=hB.at_ 1 _ rfl;have x2:=hB.at_ 2 _ rfl;have x3:=hB.at_ 3 _ rfl;have x4:=hB.at_ 4 _ rfl;have HKB:=lh hB.keep;clear hwb hB;generalize w.heap.size=g0 at hbs x0 x1 x2 x3 x4 ⊢;go_wp2_with (go_at_call 28;refine hold ?_);refine unhold ?_;refine (HSO.out _ HKB.out).mono ?_;rintro e w1 ⟨rfl,hk1⟩;have HK1:=lh (HKB.out.trans hk1);clear hk1 x0 x1 x2 x3 x4 HSO
 rcases ht with rfl|rfl|rfl
 all_goals
  go_wp2;rw [Exit.noGoto_ret];exact bodyPost_ret (v:=.tuple #[.slice none 0 0,.int .i64 _]) (by simp [results,Tryz.results9,go_sem]) rfl ⟨rfl,HK1.out⟩
theorem elt_vs:Elt Tryz.prog 27 56 1 24:=by
 obtain ⟨i,hi,h1,h2,h3⟩:=info_parts (show (Tryz.prog.info? 56).map (fun i=>(i.zero,i.size,i.bytes))=some (some (.slice none 0 0),1,24) by kernel_rfl);exact ⟨i,_,Tryz.underlying27,hi,h1,h2,h3,rfl,by decide,by decide⟩
theorem rw_len(x:Rw):x.cells.length=1:=rfl
theorem rw_one(x:Rw):∀ u∈x.cells,u.oneCell'=true:=by simp [Rw.cells,Value.oneCell']
theorem sl_takeR{w:World}{c:Nat}{A:Option Addr}{xs:List Rw}(h:Sl w 1 Rw.cells A c xs)(a:Nat):Sl w 1 Rw.cells A c (xs.take a):=by
 have hl:=List.length_take_le a xs;have hl2:(xs.take a).length≤xs.length:=by rw [List.length_take];omega
 refine ⟨Nat.le_trans hl2 h.cap,h.big,Nat.le_trans hl2 h.len,fun i hi=>?_⟩;obtain ⟨b,off,hA,hc⟩:=h.at_ i (by omega);refine ⟨b,off,hA,fun j u hu=>hc j u ?_⟩;rw [List.getElem_take] at hu;exact hu
theorem sl_dropR{w:World}{c g:Nat}{xs:List Rw}(h:Sl w 1 Rw.cells (some ⟨g,0,none⟩) c xs)(a:Nat):Sl w 1 Rw.cells (some ⟨g,a,none⟩) (c-a) (xs.drop a):=by
 have h1:=h.cap;have h2:=h.big;have h3:=h.len;refine ⟨by rw [List.length_drop];omega,by omega,by rw [List.length_drop];omega,fun i hi=>⟨g,a,rfl,fun j u hu=>?_⟩⟩;rw [List.length_drop] at hi;obtain ⟨b,off,hA,hc⟩:=h.at_ (a+i) (by omega);injection hA with hA;injection hA with e1 e2;subst e1;subst e2;rw [List.getElem_drop] at hu;have:=hc j u hu;rw [show 0+(a+i)*1+j=a+i*1+j by omega] at this;exact this
def sortR(s:Int)(rows:List Rw):List Rw:=if 0≤s then Sym.ssort (ltC (cmR s.toNat)) rows else rows
theorem sortR_len(s:Int)(rows:List Rw):(sortR s rows).length=rows.length:=by
 unfold sortR
 split
 ·exact Sym.ssort_len rows
 ·rfl
theorem sortR_nil(s:Int):sortR s []=[]:=List.length_eq_zero_iff.1 (sortR_len s [])
theorem sortR_mem(s:Int)(rows:List Rw)(r:Rw):r∈sortR s rows↔r∈rows:=by
 unfold sortR
 split
 ·exact Sym.ssort_mem (ordR s.toNat) rows r
 ·rfl
theorem sortR_vs(s:Int)(rows:List Rw):(sortR s rows).map (·.vs)=sortF s (rows.map (·.vs)):=by
 unfold sortR sortF
 split
 ·exact Sym.ssort_map (lt:=ltC (cmR s.toNat)) (lt':=ltL s.toNat) (fun r:Rw=>r.vs) (fun a b=>rfl) rows
 ·rfl
theorem sortR_app(s:Int)(rows:List Rw)(x:Rw)(k:Nat)(hk:k≤rows.length)(hn:¬ 0≤s→k=rows.length)(hQ:0≤s→∀ j (h:j<(sortR s rows).length),k≤j→ltC (cmR s.toNat) x (sortR s rows)[j]=true)(hP:0≤s→∀ (h:k-1<(sortR s rows).length),0<k→ltC (cmR s.toNat) x (sortR s rows)[k-1]=false) :
 (sortR s rows).take k++[x]++(sortR s rows).drop k=sortR s (rows++[x]):=by
 by_cases hs:0≤s
 ·have hl:=sortR_len s rows;have h1:=hQ hs;have h2:=hP hs;unfold sortR at h1 h2 hl ⊢;simp only [if_pos hs] at h1 h2 hl ⊢;exact Sym.rins_eq (ordR s.toNat) (Sym.ssort_stb (ordR s.toNat) rows) (by omega) h1 h2
 ·have e:=hn hs;unfold sortR;rw [if_neg hs,if_neg hs,e,List.take_length,List.drop_length,List.append_nil]
theorem ltC_less(s:Nat)(x y:Rw):ltC (cmR s) x y=lessV (x.vs.getD s zeroVal) (y.vs.getD s zeroVal):=by
 rw [Bool.eq_iff_iff,lessV_iff,← cmpV_lt];unfold ltC cmR;rw [decide_eq_true_iff]
theorem rsort18_any(A B:Option Addr)(n m:Nat)(cs:List Col)(c:Cfg)(rows:List Rw)(w:World)(h:Sl w 2 Col.cells A n cs)(hz:∀ x∈cs,x.name.size≤140737488355328)(hc:CfgAt w c)(hf:Fits cs c)
 (hr:Sl w 1 Rw.cells B m rows) (hra:RowsAt w rows) (hl:rows.length≤1000) (he:tErr cs (rows.map (·.vs))=0) :
 Calls Tryz.prog 10 #[.slice A cs.length n,c.v,.slice B rows.length m] w fun e w'=>∃ v,e=.returned (.tuple #[v,.int .i64 0])∧OwnR w' w.heap.size v (sortR c.sort rows)∧Keep w w':=by
 have HF:=lh (fun W (hW:Keep w W)=>rfits_any A n cs c W (h.keep hW) hz (hc.keep hW));have HM:=lh (fun W (hW:Keep w W)=>rmay18_any A B n m cs rows W (h.keep hW) hz (hr.keep hW) (hra.keep hW) (by omega));rw [he] at HM;have hq:=pB_yes hf;have HR:=lh hr;have HRA:=lh hra;have HSO:=lh (show 0≤c.sort→∀ r∈rows,c.sort.toNat<r.vs.length from fun h0 r hr=>by
  have h1:=((terr_ok he).2 r.vs (List.mem_map_of_mem hr)).1
  rcases hf.sort with h2|h2
  ·omega
  ·have:=(dim_rng h2).2;omega)
 have HSZ:=lh (show ∀ r∈rows,∀ x∈r.vs,x.s.size≤maxLen from fun r hr x hx=>by
  have h1:=((terr_ok he).2 r.vs (List.mem_map_of_mem hr)).2.1 x hx;unfold noMay mayV at h1;simp only [Bool.not_eq_false'] at h1
  split at h1
  ·have h2:x.s.toList=[]:=List.isEmpty_iff.1 h1;have h3:x.s.size=0:=by rw [← size_toList,h2];rfl
   rw [h3];exact Nat.zero_le _
  ·split at h1
   ·simp at h1;unfold maxLen;omega
   ·cases h1)
 rw [hq] at HF;generalize hn:rows.length=N at hl HM ⊢;have HN:=lh hn;obtain ⟨s0,iA,ic,iv,rA,rc,rv,sA,sc,sp,lf⟩:=c;simp only at HSO;simp only [Cfg.v] at HF ⊢;clear h hz hc hr hra he hn hq hf;go_enter Tryz.func10,Tryz.ntmps10;go_upto_region 1 with fail;have hB:BoxA w (w.alloc (.cells #[.int .i64 s0,.slice iA iv.length ic,.slice rA rv.length rc,.slice sA sp.length sc,.int .i64 lf] 26)) [.int .i64 s0,.slice iA iv.length ic,.slice rA rv.length rc,.slice sA sp.length sc,.int .i64 lf]:=BoxA.start (t:=26) (Keep.refl _);generalize hwb:World.alloc w _=wb at hB ⊢;have hbs:=hB.lt;have x0:=hB.at_ 0 _ rfl;have x1:=hB.at_ 1 _ rfl;have x2:=hB.at_ 2 _ rfl;have x3:=hB.at_ 3 _ rfl;have x4:=hB.at_ 4 _ rfl;have HKB:=lh hB.keep;have HX0:=lh x0;clear hwb hB;generalize w.heap.size=g0 at hbs x0 x1 x2 x3 x4 HX0 ⊢;go_wp2_with (go_at_call 39;refine hold ?_);refine unhold ?_;refine (HF.out _ HKB.out).mono ?_;rintro e w0 ⟨rfl,hk0⟩;have HK0:=lh (HKB.out.trans hk0);have HK0b:=lh hk0;clear x0 x1 x2 x3 x4 HF hk0;go_wp2_with (go_at_call 40;refine hold ?_);refine unhold ?_;refine (HM.out _ HK0.out).mono ?_;rintro e w1 ⟨rfl,hk1⟩;have HK1:=lh (HK0.out.trans hk1);have HY0:=lh (box_cell (HK0b.out.trans hk1) hbs HX0.out);have hg1:g0<w1.heap.size:=block_lt_of_cell HY0.out;clear hk1 HM hbs HX0 HK0 HK0b;go_wp2;go_loopw [10,9] (fun vi vo wr=>∃ (k:Nat) (o:Value),vi=.int .i64 k∧k≤N∧o=vo∧Hid (OwnR wr w1.heap.size o (sortR s0 (rows.take k)))∧Hid (Keep w1 wr)) (fun vi _ _=>N-(intOf vi).toNat)
 case atStart=>exact ⟨0,_,rfl,Nat.zero_le _,rfl,(by show OwnR _ _ _ _;rw [List.take_zero,sortR_nil];exact Own.nil_ _ _ _ _ _),Keep.refl _⟩
 case round =>
  obtain ⟨k,o,rfl,hk,rfl,HO,HK⟩:=hrel
  by_cases hlt:k<N
  ·have hlt2:k<rows.length:=by rw [HN.out];exact hlt
   obtain ⟨wk,hwk⟩:∃ wk,wk=wr:=⟨_,rfl⟩;subst hwk;have hLl:(sortR s0 (rows.take k)).length=k:=by rw [sortR_len,List.length_take];omega
   have HXM:=lh (List.getElem_mem hlt2);have HTK:=lh (List.take_succ_eq_append_getElem hlt2);have HLM:=lh (show ∀ r∈sortR s0 (rows.take k),r∈rows from fun r hr=>List.mem_of_mem_take ((sortR_mem s0 (rows.take k) r).1 hr));have HAP:=lh (sortR_app s0 (rows.take k) rows[k]);have HCX:=lh (fun W (hW:Keep w1 W)=>sl_rw (HR.out.keep (HK1.out.trans hW)) k hlt2);generalize rows[k]=x at HXM HTK HAP HCX;generalize sortR s0 (rows.take k)=L at HO hLl HLM HAP;obtain ⟨A0,c0,rfl⟩:=own_form HO.out;rw [hLl] at HO ⊢;have HLL:=lh hLl;clear hLl;go_upto_block 2 with fail;go_cut [11] from 31 to 59 (fun s11 wx=>∃ a:Nat,s11=.int .i64 a∧a≤k∧Hid (¬ 0≤s0→a=k)∧Hid (0≤s0→∀ j (h:j<L.length),a≤j→ltC (cmR s0.toNat) x L[j]=true)∧Hid (0≤s0→∀ (h:a-1<L.length),0<a→ltC (cmR s0.toNat) x L[a-1]=false)∧Hid (Keep wk wx))
   case first =>
    go_wp2;go_loopw [11] (fun va wr=>∃ a:Nat,va=.int .i64 a∧a≤k∧Hid (¬ 0≤s0→a=k)∧Hid (0≤s0→∀ j (h:j<L.length),a≤j→ltC (cmR s0.toNat) x L[j]=true)∧Hid (Keep wk wr)) (fun va _=>(intOf va).toNat)
    case atStart=>exact ⟨k,rfl,Nat.le_refl _,(fun _=>rfl),(fun _ j h hj=>absurd h (by have:=HLL.out;omega)),Keep.refl _⟩
    case round =>
     obtain ⟨a,rfl,ha,HN0,HQ,HKq⟩:=hrel;have y0:=(HK.out.trans HKq.out).cell (p:=⟨g0,0,none⟩) hg1 |>.trans HY0.out
     have hg2:g0<wr.heap.size:=block_lt_of_cell y0
     by_cases hs:0≤s0
     ·by_cases ha0:a=0
      ·subst ha0;go_upto_region 11 with fail;go_quiet (fail);go_wp2_with fail;go_meet;exact ⟨0,by go_num,Nat.zero_le _,(fun h=>absurd hs (by omega)),HQ.out,(fun _ _ h=>absurd h (by omega)),HKq.out.trans (by repeat first|exact kp0|apply kp1|apply kp2|apply kp3|apply kp4)⟩
      ·obtain ⟨s,rfl⟩:∃ s:Nat,s0=(s:Int):=⟨s0.toNat,by omega⟩;obtain ⟨q,hq⟩:∃ q,a=q+1:=⟨a-1,by omega⟩;have hqL:q<L.length:=by have:=HLL.out;omega
       have hpos:(0:Int)<(a:Int):=by omega
       have hpos2:0<a:=by omega
       have hwq:IntKind.i64.wrap (q:Int)=(q:Int):=by rw [IntKind.wrap_i64];omega
       have hdp:decide (0<a)=true:=decide_eq_true hpos2;have hsub:(a:Int)-1=(q:Int):=by omega
       obtain ⟨bx,ox,hBx,hbx,hcx⟩:=HCX.out wr (HK.out.trans HKq.out);have HSX:=lh ((HRA.out x HXM.out).keep (HK1.out.trans (HK.out.trans HKq.out)));have hsx:s<x.vs.length:=by have:=HSO.out hs x HXM.out;simpa using this
       have HYM:=lh (HLM.out _ (List.getElem_mem hqL));have HSL:=lh (HO.out.keep HKq.out);obtain ⟨Ao,co,eo,hso⟩:=HSL.out.sl rw_len (by have:=HLL.out;omega);injection eo with e1 e2 e3;subst e1;subst e3;clear e2;obtain ⟨by_,oy,hBy,hby,hcy⟩:=sl_rw hso q hqL;have HSY:=lh ((HRA.out L[q] HYM.out).keep (HK1.out.trans (HK.out.trans HKq.out)));have hsy:s<L[q].vs.length:=by have:=HSO.out hs L[q] HYM.out;simpa using this
       have HZX:=lh (HSZ.out x HXM.out);have HZY:=lh (HSZ.out L[q] HYM.out);have HLT:=lh (ltC_less s x L[q]);have HNX:=lh (show ltC (cmR s) x L[q]=true→0≤(s:Int)→∀ j (h:j<L.length),q≤j→ltC (cmR s) x L[j]=true from fun h1 h2 j hj hq2=>by
            rcases Nat.lt_or_ge j a with h3|h3
            ·have:j=q:=by omega
             subst this;exact h1
            ·exact HQ.out h2 j hj h3)
       have HPX:=lh (show ltC (cmR s) x L[q]=false→∀ (h:a-1<L.length),ltC (cmR s) x L[a-1]=false from fun h1 h2=>by
            have e:a-1=q:=by omega
            simp only [e];exact h1)
       generalize L[q]=y at hcy HSY hsy HZY HLT HNX HPX;have hx9:=HZX.out _ (List.getElem_mem hsx);have hy9:=HZY.out _ (List.getElem_mem hsy);have hlt9:=HLT.out;rw [getD_lt _ _ _ hsx,getD_lt _ _ _ hsy] at hlt9;have HLT2:=lh hlt9;clear hlt9 HLT HZX HZY;obtain ⟨xA,xc,xv⟩:=x;obtain ⟨yA,yc,yv⟩:=y;simp only at hcx hcy hsx hsy HSX HSY HLT2 HNX HPX hx9 hy9;obtain ⟨b3,o3,h3A,hb3,c3,c4,c5⟩:=sl_val HSX.out s hsx;obtain ⟨b4,o4,h4A,hb4,d3,d4,d5⟩:=sl_val HSY.out s hsy;generalize xv[s]=u at c3 c4 c5 hx9 HLT2;generalize yv[s]=v at d3 d4 d5 hy9 HLT2;obtain ⟨uk,un,us⟩:=u;obtain ⟨vk,vn,vs⟩:=v;simp only at c3 c4 c5 d3 d4 d5 hx9 hy9;subst h3A;subst h4A;subst hBx;subst hBy;have hka:((q:Int))<(k:Int):=by omega
       have hq9:=lh hq;clear hq;have hless:=fun W=>less_any ⟨uk,un,us⟩ ⟨vk,vn,vs⟩ W hx9 hy9;have HLVE:∀ b,lessV ⟨uk,un,us⟩ ⟨vk,vn,vs⟩=b→Hid (lessV ⟨uk,un,us⟩ ⟨vk,vn,vs⟩=b):=fun b h=>h;generalize hlb:lessV ⟨uk,un,us⟩ ⟨vk,vn,vs⟩=lb at hless;have HLV:=lh hlb;have HLS:=lh hless;clear hlb hless HLVE hx9 hy9
       cases lb
       ·go_upto_region 11 with fail
        first|refine Zone.wp_region_all_gro (by kernel_rfl) (by kernel_rfl) ?_|refine Zone.wp_region_all (by kernel_rfl) (by kernel_rfl) ?_
        repeat
             refine Zone.wpZ_step (fun K hK=>?_);go_simp
             first
             | (refine hK _ _ ?_;clear hK K)
             | (apply Exists.intro
                refine ⟨fun p=>?_,hK _ _ ?_⟩
                ((go_at_call 41;exact Zone.zc (HLS.out _)))
                clear hK K)
        refine Zone.wpZ_nil ?_;intro p;simp only [Zone.fill];go_wp2_with fail;go_meet;exact ⟨a,rfl,ha,(fun h=>absurd hs (by omega)),HQ.out,(fun _ h1 _=>HPX.out (by rw [HLT2.out];exact HLV.out) h1),HKq.out.trans (by repeat first|exact kp0|apply kp1|apply kp2|apply kp3|apply kp4)⟩
       ·go_upto_region 11 with fail
        first|refine Zone.wp_region_all_gro (by kernel_rfl) (by kernel_rfl) ?_|refine Zone.wp_region_all (by kernel_rfl) (by kernel_rfl) ?_
        repeat
             refine Zone.wpZ_step (fun K hK=>?_);go_simp
             first
             | (refine hK _ _ ?_;clear hK K)
             | (apply Exists.intro
                refine ⟨fun p=>?_,hK _ _ ?_⟩
                ((go_at_call 41;exact Zone.zc (HLS.out _)))
                clear hK K)
        refine Zone.wpZ_nil ?_;intro p;simp only [Zone.fill];go_wp2;go_roundw
        case rel=>exact ⟨q,by go_num,by have:=hq9.out;omega,(fun h=>absurd hs (by omega)),HNX.out (by rw [HLT2.out];exact HLV.out),HKq.out.trans (by repeat first|exact kp0|apply kp1|apply kp2|apply kp3|apply kp4)⟩
        case measure=>simp [intOf];omega
     ·have hs2:¬ (0≤s0):=hs;have hd:decide (0≤s0)=false:=decide_eq_false hs;go_upto_region 11 with fail;go_quiet (fail);go_wp2_with fail;go_meet;exact ⟨a,rfl,ha,(fun _=>HN0.out (by omega)),(fun h=>absurd h (by omega)),(fun h=>absurd h (by omega)),HKq.out.trans (by repeat first|exact kp0|apply kp1|apply kp2|apply kp3|apply kp4)⟩
   case rest =>
    rename World=>wx;obtain ⟨a,rfl,ha,HN0,HQ,HP,HKX⟩:=hcut;have hfin:=HAP.out a (by rw [List.length_take];omega) (fun h=>by rw [List.length_take,HN0.out h];omega) HQ.out HP.out;rw [← HTK.out] at hfin;have hPl:(L.take a).length=a:=by rw [List.length_take];have:=HLL.out;omega
    have hQl:(L.drop a).length=k-a:=by rw [List.length_drop,HLL.out]
    have hform:(A0=none∧k=0∧c0=0)∨∃ g,A0=some ⟨g,0,none⟩:=by
     rcases HO.out.2 with ⟨h1,_⟩ | ⟨g,cap,cur,h1,_⟩
     ·injection h1 with e1 e2 e3;exact .inl ⟨e1,e2,e3⟩
     ·injection h1 with e1 e2 e3;exact .inr ⟨g,e1⟩
    have HOX:=lh (HO.out.keep HKX.out);have hslL:Sl wx 1 Rw.cells A0 c0 L:=by
     obtain ⟨A',c',e,hs⟩:=HOX.out.sl rw_len (by have:=HLL.out;omega);injection e with e1 e2 e3;rw [e1,e3];exact hs
    have hcap:k≤c0:=by have:=hslL.cap;have:=HLL.out;omega
    have hacap:a≤c0:=by omega
    obtain ⟨bx,ox,hBx,hbx,hcx⟩:=HCX.out wx (HK.out.trans HKX.out);have HFIN:=lh hfin;have HSLL:=lh hslL;have HPL:=lh hPl;have HQL:=lh hQl;have HKW:=lh (HK.out.trans HKX.out);have HZX:=lh HKW.out.size;clear hfin hslL hPl hQl HAP HN0 HQ HP HCX;subst hBx
    rcases hform with ⟨rfl,rfl,rfl⟩ | ⟨g,rfl⟩
    ·have ha0:a=0:=by omega
     subst ha0;have HL0:=lh (List.eq_nil_of_length_eq_zero HLL.out);go_wp2_with (at_builtin;refine hold ?_);refine unhold ?_;refine wpList_app elt_vs rw_len rw_one rfl (.tmp 60) (.tmp 63) rfl (ys:=([]:List Rw)) (Own.nil_ wx wx.heap.size _ _ _) rfl rfl (Sl.nil_ _ (by decide)) (by simp) (Nat.le_refl _) ?_;intro v2 w2 hown2 hg2 _;have hk2:Keep wx w2:=Keep.grown (Keep.refl wx) hg2 (fun _ h=>by cases h);have HK2:=lh hk2;have HO2:=lh hown2;have hcx2:=(hk2.cell (p:=⟨bx,ox+0,none⟩) hbx).trans hcx;have hbx2:=Nat.lt_of_lt_of_le hbx hk2.size;obtain ⟨xA,xc,xv⟩:=x;simp only [Nat.add_zero] at hcx2;clear hk2 hown2 hg2 hcx hbx;go_wp2_with (at_builtin;refine hold ?_);refine unhold ?_;have HO3:OwnR (w2.alloc (.cells #[.slice xA xv.length xc] 56)) wx.heap.size v2 ([]++[]):=HO2.out.keep (by repeat first|exact kp0|apply kp1|apply kp2|apply kp3|apply kp4);have hcw:(w2.alloc (.cells #[.slice xA xv.length xc] 56)).cell? ⟨w2.heap.size,0,none⟩=some (.slice xA xv.length xc):=by generalize w2=W0;simp [go_sem]
     have hz2:=HK2.out.size;refine wpList_app elt_vs rw_len rw_one rfl (.tmp 65) (.tmp 70) rfl (ys:=[⟨xA,xc,xv⟩]) HO3 rfl rfl (sl_one _ (by omega) (by omega) (fun j u hu=>by
      match j,hu with
      | 0,hu=>cases hu;exact hcw)) (by simp) (by simp only [World.size_alloc];omega) ?_
     intro v3 w3 hown3 hg3 _;have ⟨a1,a2,a3⟩:=HO3.after hg3 (HK2.out.trans (by repeat first|exact kp0|apply kp1|apply kp2|apply kp3|apply kp4)) (Nat.le_refl _);have HK3:=lh a1;have HO4:=lh hown3;have hz3:=a1.size;clear hown3 hg3 HO3 hcw a1 a2 a3 hcx2 hbx2;go_wp2_with (at_builtin;refine hold ?_);refine unhold ?_;refine wpList_app elt_vs rw_len rw_one rfl (.tmp 72) (.tmp 75) rfl (ys:=([]:List Rw)) HO4.out rfl rfl (Sl.nil_ _ (by decide)) (by simp) hz3 ?_;intro v4 w4 hown4 hg4 _;have ⟨b1,b2,b3⟩:=HO4.out.after hg4 HK3.out (Nat.le_refl _);have HK4:=lh (HKW.out.trans b1);have HO5:=lh (show OwnR w4 w1.heap.size v4 (sortR s0 (rows.take (0+1))) by
      rw [← HFIN.out,HL0.out];exact hown4.base_mono HZX.out)
     clear hown4 hg4 b1 b2 b3;go_wp2;go_roundw
     case rel=>exact ⟨0+1,_,by go_num,by omega,rfl,HO5.out,HK4.out⟩
     case measure=>simp [intOf];omega
    ·go_wp2_with (at_builtin;refine hold ?_);refine unhold ?_;refine wpList_app elt_vs rw_len rw_one rfl (.tmp 60) (.tmp 63) rfl (ys:=L.take a) (Own.nil_ wx wx.heap.size _ _ _) rfl (by rw [HPL.out];rfl) (sl_takeR HSLL.out a) (by rw [HPL.out,List.length_nil];omega) (Nat.le_refl _) ?_;intro v2 w2 hown2 hg2 _;have hk2:Keep wx w2:=Keep.grown (Keep.refl wx) hg2 (fun _ h=>by cases h);have HK2:=lh hk2;have HO2:=lh hown2;have hcx2:=(hk2.cell (p:=⟨bx,ox+k,none⟩) hbx).trans hcx;have hbx2:=Nat.lt_of_lt_of_le hbx hk2.size;obtain ⟨xA,xc,xv⟩:=x;simp only at hcx2;clear hk2 hown2 hg2 hcx hbx;go_wp2_with (at_builtin;refine hold ?_);refine unhold ?_;have HO3:OwnR (w2.alloc (.cells #[.slice xA xv.length xc] 56)) wx.heap.size v2 ([]++L.take a):=HO2.out.keep (by repeat first|exact kp0|apply kp1|apply kp2|apply kp3|apply kp4);have hcw:(w2.alloc (.cells #[.slice xA xv.length xc] 56)).cell? ⟨w2.heap.size,0,none⟩=some (.slice xA xv.length xc):=by generalize w2=W0;simp [go_sem]
     have hz2:=HK2.out.size;refine wpList_app elt_vs rw_len rw_one rfl (.tmp 65) (.tmp 70) rfl (ys:=[⟨xA,xc,xv⟩]) HO3 rfl rfl (sl_one _ (by omega) (by omega) (fun j u hu=>by
      match j,hu with
      | 0,hu=>cases hu;exact hcw)) (by rw [List.nil_append,HPL.out,List.length_singleton];omega) (by simp only [World.size_alloc];omega) ?_
     intro v3 w3 hown3 hg3 _;have ⟨a1,a2,a3⟩:=HO3.after hg3 (HK2.out.trans (by repeat first|exact kp0|apply kp1|apply kp2|apply kp3|apply kp4)) (Nat.le_refl _);have HK3:=lh a1;have HO4:=lh hown3;have hz3:=a1.size;have HSL3:=lh (HSLL.out.keep a1);clear hown3 hg3 HO3 hcw a1 a2 a3 hcx2 hbx2
     by_cases hac:a=c0
     ·subst hac;have hka:k=a:=by omega
      subst hka;go_wp2_with (at_builtin;refine hold ?_);refine unhold ?_;have hdr:L.drop k=[]:=by apply List.eq_nil_of_length_eq_zero;rw [HQL.out];omega
      have HDR:=lh hdr;clear hdr;refine wpList_app elt_vs rw_len rw_one rfl (.tmp 72) (.tmp 75) rfl (ys:=[]) HO4.out rfl rfl ⟨Nat.le_refl _,by omega,by simp,fun i hi=>absurd hi (Nat.not_lt_zero _)⟩ (by rw [List.length_append,List.nil_append,HPL.out,List.length_singleton,List.length_nil];omega) hz3 ?_;intro v4 w4 hown4 hg4 _;have ⟨b1,b2,b3⟩:=HO4.out.after hg4 HK3.out (Nat.le_refl _);have HK4:=lh (HKW.out.trans b1);have HO5:=lh (show OwnR w4 w1.heap.size v4 (sortR s0 (rows.take (k+1))) by
       rw [← HFIN.out];have:=hown4.base_mono HZX.out;rw [HDR.out];exact this)
      clear hown4 hg4 b1 b2 b3;go_wp2;go_roundw
      case rel=>exact ⟨k+1,_,by go_num,by omega,rfl,HO5.out,HK4.out⟩
      case measure=>simp [intOf];omega
     ·have hac2:a<c0:=by omega
      have hac3:¬ c0-a=0:=by omega
      have hac4:¬ c0=a:=by omega
      go_wp2_with (at_builtin;refine hold ?_);refine unhold ?_;refine wpList_app elt_vs rw_len rw_one rfl (.tmp 72) (.tmp 75) rfl (ys:=L.drop a) HO4.out rfl (by rw [HQL.out];rfl) (sl_dropR HSL3.out a) (by rw [List.length_append,List.nil_append,HPL.out,List.length_singleton,HQL.out];omega) hz3 ?_;intro v4 w4 hown4 hg4 _;have ⟨b1,b2,b3⟩:=HO4.out.after hg4 HK3.out (Nat.le_refl _);have HK4:=lh (HKW.out.trans b1);have HO5:=lh (show OwnR w4 w1.heap.size v4 (sortR s0 (rows.take (k+1))) by
       rw [← HFIN.out];have:=hown4.base_mono HZX.out;exact this)
      clear hown4 hg4 b1 b2 b3;go_wp2;go_roundw
      case rel=>exact ⟨k+1,_,by go_num,by omega,rfl,HO5.out,HK4.out⟩
      case measure=>simp [intOf];omega
  ·have hkN:k=N:=by omega
   subst hkN;rw [← HN.out,List.take_length] at HO;go_wp2;exact bodyPost_ret (v:=.tuple #[o,.int .i64 0]) (by simp [results,Tryz.results10,go_sem]) rfl ⟨o,rfl,HO.out.base_mono HK1.out.size,HK1.out.trans HK.out⟩
theorem rsort18_no(A B:Option Addr)(n m:Nat)(cs:List Col)(c:Cfg)(rows:List Rw)(w:World)(h:Sl w 2 Col.cells A n cs)(hz:∀ x∈cs,x.name.size≤140737488355328)(hc:CfgAt w c)
 (hr:Sl w 1 Rw.cells B m rows) (hra:RowsAt w rows) (hl:rows.length≤1000) (he:bErr cs c (rows.map (·.vs))≠0) :
 Calls Tryz.prog 10 #[.slice A cs.length n,c.v,.slice B rows.length m] w fun e w'=>e=.returned (.tuple #[.slice none 0 0,.int .i64 (bErr cs c (rows.map (·.vs)))])∧Keep w w':=by
 have HF:=lh (fun W (hW:Keep w W)=>rfits_any A n cs c W (h.keep hW) hz (hc.keep hW));have HM:=lh (fun W (hW:Keep w W)=>rmay18_any A B n m cs rows W (h.keep hW) hz (hr.keep hW) (hra.keep hW) (by omega));have ht:=tErr_any cs (rows.map (·.vs));unfold bErr at he ⊢;generalize tErr cs (rows.map (·.vs))=t at ht he HM ⊢;generalize hq:pB (Fits cs c)=q at he HF ⊢;clear hq;obtain ⟨s0,iA,ic,iv,rA,rc,rv,sA,sc,sp,lf⟩:=c;simp only [Cfg.v];clear h hc hr hra;go_enter Tryz.func10,Tryz.ntmps10;go_upto_region 1 with fail;have hB:BoxA w (w.alloc (.cells #[.int .i64 s0,.slice iA iv.length ic,.slice rA rv.length rc,.slice sA sp.length sc,.int .i64 lf] 26)) [.int .i64 s0,.slice iA iv.length ic,.slice rA rv.length rc,.slice sA sp.length sc,.int .i64 lf]:=BoxA.start (t:=26) (Keep.refl _);generalize hwb:World.alloc w _=wb at hB ⊢;have hbs:=hB.lt;have x0:=hB.at_ 0 _ rfl;have x1:=hB.at_ 1 _ rfl;have x2:=hB.at_ 2 _ rfl;have x3:=hB.at_ 3 _ rfl;have x4:=hB.at_ 4 _ rfl;have HKB:=lh hB.keep;clear hwb hB;generalize w.heap.size=g0 at hbs x0 x1 x2 x3 x4 ⊢;go_wp2_with (go_at_call 39;refine hold ?_);refine unhold ?_;refine (HF.out _ HKB.out).mono ?_;rintro e w0 ⟨rfl,hk0⟩;have HK0:=lh (HKB.out.trans hk0);clear x0 x1 x2 x3 x4 HF hk0
 cases q
 ·go_wp2;exact bodyPost_ret (v:=.tuple #[.slice none 0 0,.int .i64 2]) (by simp [results,Tryz.results10,go_sem]) rfl ⟨rfl,HK0.out⟩
 ·rw [if_pos rfl] at he;go_wp2_with (go_at_call 40;refine hold ?_);refine unhold ?_;refine (HM.out _ HK0.out).mono ?_;rintro e w1 ⟨rfl,hk1⟩;have HK1:=lh (HK0.out.trans hk1);clear hk1 HM
  rcases ht with rfl|rfl|rfl|rfl
  ·exact absurd rfl he
  all_goals
   go_wp2;exact bodyPost_ret (v:=.tuple #[.slice none 0 0,.int .i64 _]) (by simp [results,Tryz.results10,go_sem]) rfl ⟨rfl,HK1.out⟩
end Go.Proofs.YtpkocnpamcchcaaGreatDoor
