/- Parts of the proof. -/
import Derived.Test.YtpkocnpamcchcaaGreatDoorJ45
import Derived.Test.YtpkocnpamcchcaaGreatDoorJ47
set_option maxRecDepth 100000
set_option maxHeartbeats 4000000
set_option linter.unusedSimpArgs false
set_option linter.unusedVariables false
set_option linter.unnecessarySimpa false
namespace Go.Proofs.YtpkocnpamcchcaaGreatDoor
open Go.RowKit Go.Zone Go.Shelf
attribute [local go_sem] zone stepZ fill lookFs goes goesUpon dropFs cell_gro frozen_gro size_gro lt_add drew_gro tape_gro keep_refl
attribute [local go_sem] lt_add2 lt_add3 lt_add4 lt_add5 lt_add6 lt_add7 lt_add8 lt_add9 lt_add10 lt_add11 lt_add12
def cfg0:Cfg:=⟨-1,none,0,[],none,0,[],none,0,[],1⟩
theorem cfg0_at(w:World):CfgAt w cfg0:=⟨Sl.nil_ _ (by decide),Sl.nil_ _ (by decide),Sl.nil_ _ (by decide)⟩
def zeroNB(nm:ByteArray):List (ByteArray × List UInt8):=[(⟨#[115,99,104,101,109,97]⟩,schB [⟨nm,1⟩] cfg0),(⟨#[114,111,119,115]⟩,le 0 4),(⟨#[100,105,99,116,46,48]⟩,dBytes 1 []),(⟨#[102,111,114,119,97,114,100,46,48]⟩,idxB 0 0 1 [])]
theorem name_zero(pre:ByteArray)(x:ByteArray)(h:x.data.toList=pre.data.toList++[46,48]):nameG pre 0=x:=by
 apply ByteArray.ext;apply Array.toList_inj.1;rw [nameG_list,Lib.decDigits_one (by decide),h];rfl
theorem img_zero(nm:ByteArray):imgG [⟨nm,1⟩] cfg0 []=zeroNB nm:=by
 have h1:nameG sDict 0=⟨#[100,105,99,116,46,48]⟩:=name_zero _ _ rfl;have h2:nameG sFwd 0=⟨#[102,111,114,119,97,114,100,46,48]⟩:=name_zero _ _ rfl;have h3:dOwn []=[]:=List.length_eq_zero_iff.1 (Nat.le_zero.1 (dOwn_len []));have h4:colV [] 0=[]:=rfl;have h5:colG [⟨nm,1⟩] cfg0 [] 0=[(nameG sDict 0,dBytes 1 (dOwn [])),(nameG sFwd 0,idxB 0 (dOwn []).length (wdF (dOwn []).length) (packB (idsOf []) (wdF (dOwn []).length)))]:=rfl;show [(⟨#[115,99,104,101,109,97]⟩,schB [⟨nm,1⟩] cfg0),(⟨#[114,111,119,115]⟩,le 0 4)]++(List.range 1).flatMap (colG [⟨nm,1⟩] cfg0 [])++[]=_;rw [List.range_one,List.flatMap_cons,List.flatMap_nil,h5,h1,h2,h3];rfl
theorem name_a:NameP ⟨#[97]⟩:=⟨by decide,by decide,by decide⟩
theorem fits_zero:Fits [⟨⟨#[97]⟩,1⟩] cfg0 where
 may:=⟨fun i h=>by
  match i,h with
  | 0,_=>exact name_a,fun i h=>by
  match i,h with
  | 0,_=>exact (by decide:(1:Int)≤1∧(1:Int)≤3),fun i k h hk=>by simp at h;omega,by simp,by simp⟩
 sort:=.inl rfl
 inv:=⟨.inl rfl,fun i h=>by simp [cfg0] at h⟩
 rng:=⟨.inl rfl,fun i h=>by simp [cfg0] at h⟩
 split:=fun i h=>absurd h (Nat.not_lt_zero _)
 one:=fun i k h=>absurd h (Nat.not_lt_zero _)
 few:=by decide
 lo:=by decide
 hi:=by decide
theorem build_zero(nm:ByteArray)(A B:Option Addr)(n m:Nat)(w:World)(h:Sl w 2 Col.cells A n [⟨nm,1⟩])(hf:Fits [⟨nm,1⟩] cfg0)(htab:TabP w)(htb:Tab w) :
 Calls Tryz.prog 9 #[.slice A 1 n,.agg #[.int .i64 (-1),.slice none 0 0,.slice none 0 0,.slice none 0 0,.int .i64 1],.slice none 0 0] w fun e w'=>∃ v S,e=.returned (.tuple #[v,.int .i64 0])∧S.map nbS=zeroNB nm∧SecsP S∧OwnB w' w.heap.size v (imageB S)∧Keep w w':=by
 have he:tErr [⟨nm,1⟩] ([].map fun r:Rw=>r.vs)=0:=by
  unfold tErr;rw [pB_yes hf.may];rfl
 have hs:sortF cfg0.sort ([].map fun r:Rw=>r.vs)=[]:=rfl;have hsec:∀ S:List Sec,S.map nbS=imgG [⟨nm,1⟩] cfg0 (sortF cfg0.sort ([].map fun r:Rw=>r.vs))→SecsP S:=fun S hS=>by
  rw [hs] at hS;exact img_secs hf (fun p hp=>by
   have:p=0:=by simpa using hp
   subst this;exact col_err he hp) (by decide) hS
 have:=build_any [⟨nm,1⟩] cfg0 A none n 0 [] w h hf (cfg0_at w) (fun bb off e=>by cases e) (fun bb off e=>by cases e) (Sl.nil_ _ (by decide)) (fun _ h=>by cases h) (by decide) (fun _ h=>by cases h) he htab htb hsec;refine this.mono ?_;rintro e w1 ⟨v,S,rfl,hnb,hsp,hov,hk⟩;rw [hs,img_zero] at hnb;exact ⟨v,S,rfl,hnb,hsp,hov,hk⟩
theorem known22_any(w:World)(htab:TabP w)(htb:Tab w):Calls Tryz.prog 7 #[] w fun e w'=>e=.returned (.bool true)∧Keep w w':=by
 go_enter Tryz.func7,Tryz.ntmps7;go_wp2_with (go_at_call 9;refine hold ?_);refine unhold ?_;have hsl:Sl (w.alloc (.cells #[.string ⟨#[97]⟩,.int .u8 1] 53)) 2 Col.cells (some ⟨w.heap.size,0,none⟩) 1 [⟨⟨#[97]⟩,1⟩]:=sl_one _ (by omega) (by omega) (fun j u hu=>by
  match j,hu with
  | 0,hu=>cases hu;simp [go_sem]
  | 1,hu=>cases hu;simp [go_sem])
 refine (build_zero ⟨#[97]⟩ (some ⟨w.heap.size,0,none⟩) none 1 0 _ hsl fits_zero (htab.keep (by repeat first|exact kp0|apply kp1|apply kp2|apply kp3|apply kp4)) (htb.keep (by repeat first|exact kp0|apply kp1|apply kp2|apply kp3|apply kp4))).mono ?_;rintro e w1 ⟨v,S,rfl,hnb,hsp,hov,hk⟩;have hlen:(imageB S).length≤140737488355328:=by
  have:=secs_len S hsp.at_;have h4:S.length=4:=by simpa [zeroNB] using congrArg List.length hnb
  rw [h4] at this;simp only [imageB,List.length_append,le_len,List.length_cons,List.length_nil];omega
 obtain ⟨A1,c1,rfl,hs1⟩:=hov.sl b8_len hlen;have HS1:=lh hs1;have HNB:=lh hnb;have HSP:=lh hsp;have HK1:=lh (show Keep w w1 from Keep.trans (Keep.alloc (Keep.refl _) _) hk);clear hnb hsp hov hk hs1 hsl hlen;go_wp2_with (go_at_call 12;refine hold ?_);refine unhold ?_;refine (rread_any A1 c1 S (imageB S) _ rfl HS1.out HSP.out).mono ?_;rintro e w2 ⟨A2,c2,L,rfl,hsl2,hsa2,hnb2,hk2⟩;rw [HNB.out] at hnb2;have hl:L.length=4:=by simpa [zeroNB] using congrArg List.length hnb2
 match L,hl with
 | [a,b,c,d],_ =>
   obtain ⟨na,Aa,ca,ba⟩:=a;obtain ⟨nb,Ab,cb,bb⟩:=b;obtain ⟨nc,Ac,cc,bc⟩:=c;obtain ⟨nd,Ad,cd,bd⟩:=d;simp only [List.map_cons,List.map_nil,nbS,zeroNB,List.cons.injEq,Prod.mk.injEq,and_true] at hnb2;obtain ⟨⟨rfl,rfl⟩,⟨rfl,rfl⟩,⟨rfl,rfl⟩,rfl,rfl⟩:=hnb2;have hb:=hsa2 ⟨⟨#[114,111,119,115]⟩,Ab,cb,le 0 4⟩ (by simp);have hcv:(convert 31 9 (.slice Ab (le 0 4).length cb)).run Tryz.prog w2=.ok (.string ⟨#[0,0,0,0]⟩) w2:=strB hb;obtain ⟨bL,off,hA,hbL,c0,c1'⟩:=sl_sec hsl2 0 (by simp);subst hA;obtain ⟨b1,o1,hA1,_,c2',c3⟩:=sl_sec hsl2 1 (by simp);injection hA1 with hA1;injection hA1 with e1 e2;subst e1;subst e2;obtain ⟨b1,o1,hA1,_,c4,c5⟩:=sl_sec hsl2 2 (by simp);injection hA1 with hA1;injection hA1 with e1 e2;subst e1;subst e2;obtain ⟨b1,o1,hA1,_,c6,c7⟩:=sl_sec hsl2 3 (by simp);injection hA1 with hA1;injection hA1 with e1 e2;subst e1;subst e2;simp only [List.getElem_cons_zero,List.getElem_cons_succ,Nat.zero_mul,Nat.add_zero,Nat.one_mul] at c0 c2' c3 c4 c6;have HK2:=lh (HK1.out.trans hk2);clear hk2 hb hsa2 c1' c5 c7 hsl2;go_wp2;go_ret;exact ⟨rfl,HK2.out⟩
noncomputable def bErr(cs:List Col)(c:Cfg)(rows:List (List Val)):Int:=if pB (Fits cs c)=true then tErr cs rows else 2
theorem tErr_any(cs:List Col)(rows:List (List Val)):tErr cs rows=0∨tErr cs rows=2∨tErr cs rows=3∨tErr cs rows=9:=by
 unfold tErr
 split<;>(try split)<;>(try split)<;>(try split)<;>simp
theorem tsort_no(A B:Option Addr)(n m:Nat)(cs:List Col)(c:Cfg)(rows:List Rw)(w:World)(h:Sl w 2 Col.cells A n cs)(hz:∀ x∈cs,x.name.size≤140737488355328)(hc:CfgAt w c)
 (hr:Sl w 1 Rw.cells B m rows) (hra:RowsAt w rows) (he:bErr cs c (rows.map (·.vs))≠0) :
 Calls Tryz.prog 28 #[.slice A cs.length n,c.v,.slice B rows.length m] w fun e w'=>e=.returned (.tuple #[.slice none 0 0,.int .i64 (bErr cs c (rows.map (·.vs)))])∧Keep w w':=by
 have HF:=lh (fun W (hW:Keep w W)=>fits_any A n cs c W (h.keep hW) hz (hc.keep hW));have HM:=lh (fun W (hW:Keep w W)=>tmay_any A B n m cs rows W (h.keep hW) hz (hr.keep hW) (hra.keep hW));have ht:=tErr_any cs (rows.map (·.vs));unfold bErr at he ⊢;generalize tErr cs (rows.map (·.vs))=t at ht he HM ⊢;generalize hq:pB (Fits cs c)=q at he HF ⊢;clear hq;obtain ⟨s0,iA,ic,iv,rA,rc,rv,sA,sc,sp,lf⟩:=c;simp only [Cfg.v];clear h hc hr hra;go_enter Tryz.func28,Tryz.ntmps28;go_upto_region 1 with fail;have hB:BoxA w (w.alloc (.cells #[.int .i64 s0,.slice iA iv.length ic,.slice rA rv.length rc,.slice sA sp.length sc,.int .i64 lf] 26)) [.int .i64 s0,.slice iA iv.length ic,.slice rA rv.length rc,.slice sA sp.length sc,.int .i64 lf]:=BoxA.start (t:=26) (Keep.refl _);generalize hwb:World.alloc w _=wb at hB ⊢;have hbs:=hB.lt;have x0:=hB.at_ 0 _ rfl;have x1:=hB.at_ 1 _ rfl;have x2:=hB.at_ 2 _ rfl;have x3:=hB.at_ 3 _ rfl;have x4:=hB.at_ 4 _ rfl;have HKB:=lh hB.keep;clear hwb hB;generalize w.heap.size=g0 at hbs x0 x1 x2 x3 x4 ⊢;go_wp2_with (go_at_call 55;refine hold ?_);refine unhold ?_;refine (HF.out _ HKB.out).mono ?_;rintro e w0 ⟨rfl,hk0⟩;have HK0:=lh (HKB.out.trans hk0);clear x0 x1 x2 x3 x4 HF hk0
 cases q
 ·go_wp2;exact bodyPost_ret (v:=.tuple #[.slice none 0 0,.int .i64 2]) (by simp [results,Tryz.results28,go_sem]) rfl ⟨rfl,HK0.out⟩
 ·rw [if_pos rfl] at he;go_wp2_with (go_at_call 59;refine hold ?_);refine unhold ?_;refine (HM.out _ HK0.out).mono ?_;rintro e w1 ⟨rfl,hk1⟩;have HK1:=lh (HK0.out.trans hk1);clear hk1 HM
  rcases ht with rfl|rfl|rfl|rfl
  ·exact absurd rfl he
  all_goals
   go_wp2;exact bodyPost_ret (v:=.tuple #[.slice none 0 0,.int .i64 _]) (by simp [results,Tryz.results28,go_sem]) rfl ⟨rfl,HK1.out⟩
theorem build_no(cs:List Col)(c:Cfg)(A B:Option Addr)(n m:Nat)(rows:List Rw)(w:World)(h:Sl w 2 Col.cells A n cs)(hz:∀ x∈cs,x.name.size≤140737488355328)
 (hc:CfgAt w c) (hr:Sl w 1 Rw.cells B m rows) (hra:RowsAt w rows) (he:bErr cs c (rows.map (·.vs))≠0) :
 Calls Tryz.prog 9 #[.slice A cs.length n,c.v,.slice B rows.length m] w fun e w'=>e=.returned (.tuple #[.slice none 0 0,.int .i64 (bErr cs c (rows.map (·.vs)))])∧Keep w w':=by
 have HSO:=lh (fun W (hW:Keep w W)=>tsort_no A B n m cs c rows W (h.keep hW) hz (hc.keep hW) (hr.keep hW) (hra.keep hW) he);have ht:bErr cs c (rows.map (·.vs))=2∨bErr cs c (rows.map (·.vs))=3∨bErr cs c (rows.map (·.vs))=9:=by
  have:=tErr_any cs (rows.map (·.vs));unfold bErr at he ⊢
  split at he
  ·rename_i hq;rw [if_pos hq]
   rcases this with h|h|h|h
   ·exact absurd h he
   all_goals simp [h]
  ·rename_i hq;rw [if_neg hq];exact .inl rfl
 generalize bErr cs c (rows.map (·.vs))=t at ht he HSO ⊢;clear h hz hc hr hra;obtain ⟨s0,iA,ic,iv,rA,rc,rv,sA,sc,sp,lf⟩:=c;simp only [Cfg.v] at HSO ⊢;go_enter Tryz.func9,Tryz.ntmps9;go_wp2;go_step3;have hB:BoxA w (w.alloc (.cells #[.int .i64 s0,.slice iA iv.length ic,.slice rA rv.length rc,.slice sA sp.length sc,.int .i64 lf] 26)) [.int .i64 s0,.slice iA iv.length ic,.slice rA rv.length rc,.slice sA sp.length sc,.int .i64 lf]:=BoxA.start (t:=26) (Keep.refl _);generalize hwb:World.alloc w _=wb at hB ⊢;have hbs:=hB.lt;have x0:=hB.at_ 0 _ rfl;have x1:=hB.at_ 1 _ rfl;have x2:=hB.at_ 2 _ rfl;have x3:=hB.at_ 3 _ rfl;have x4:=hB.at_ 4 _ rfl;have HKB:=lh hB.keep;clear hwb hB;generalize w.heap.size=g0 at hbs x0 x1 x2 x3 x4 ⊢;go_wp2_with (go_at_call 28;refine hold ?_);refine unhold ?_;refine (HSO.out _ HKB.out).mono ?_;rintro e w1 ⟨rfl,hk1⟩;have HK1:=lh (HKB.out.trans hk1);clear hk1 x0 x1 x2 x3 x4 HSO
 rcases ht with rfl|rfl|rfl
 all_goals
  go_wp2;rw [Exit.noGoto_ret];exact bodyPost_ret (v:=.tuple #[.slice none 0 0,.int .i64 _]) (by simp [results,Tryz.results9,go_sem]) rfl ⟨rfl,HK1.out⟩
attribute [local go_sem high] run_eq_val run_ne_val run_eqG_val
theorem rgreat18_any(A B:Option Addr)(n m:Nat)(cs:List Col)(c:Cfg)(rows:List Rw)(mx:Int)(w:World)(h:Sl w 2 Col.cells A n cs)(hz:∀ x∈cs,x.name.size≤140737488355328)(hc:CfgAt w c)(hr:Sl w 1 Rw.cells B m rows)(hra:RowsAt w rows) :
 Calls Tryz.prog 27 #[.slice A cs.length n,c.v,.slice B rows.length m,.int .i64 mx] w fun e w'=>(∃ g,e=.returned (.bool g)∧(g=false→(rows.length:Int)≤mx∧∀ r∈rows,r.vs.length≤300))∧Keep w w':=by
 have HG:=lh (fun W (hW:Keep w W)=>rgreat_any A n cs c W (h.keep hW) hz (hc.keep hW));have HR:=lh hr;have HRA:=lh hra;have hl:=sl_len hr;generalize hn:rows.length=N at hl ⊢;have HN:=lh hn;obtain ⟨s0,iA,ic,iv,rA,rc,rv,sA,sc,sp,lf⟩:=c;simp only [Cfg.v] at HG ⊢;clear h hz hc hr hra hn;go_enter Tryz.func27,Tryz.ntmps27;go_upto_region 1 with fail;have hB:BoxA w (w.alloc (.cells #[.int .i64 s0,.slice iA iv.length ic,.slice rA rv.length rc,.slice sA sp.length sc,.int .i64 lf] 26)) [.int .i64 s0,.slice iA iv.length ic,.slice rA rv.length rc,.slice sA sp.length sc,.int .i64 lf]:=BoxA.start (t:=26) (Keep.refl _);generalize hwb:World.alloc w _=wb at hB ⊢;have hbs:=hB.lt;have x0:=hB.at_ 0 _ rfl;have x1:=hB.at_ 1 _ rfl;have x2:=hB.at_ 2 _ rfl;have x3:=hB.at_ 3 _ rfl;have x4:=hB.at_ 4 _ rfl;have HKB:=lh hB.keep;clear hwb hB;generalize w.heap.size=g0 at hbs x0 x1 x2 x3 x4 ⊢;go_wp2_with (go_at_call 57;refine hold ?_);refine unhold ?_;refine (HG.out _ HKB.out).mono ?_;rintro e w1 ⟨⟨b,rfl⟩,hk1⟩;have HK1:=lh (HKB.out.trans hk1);clear x0 x1 x2 x3 x4 hk1 HG hbs
 cases b
 ·by_cases hgt:mx<(N:Int)
  ·have hd:decide (mx<(N:Int))=true:=decide_eq_true hgt;go_wp2;go_ret;exact ⟨⟨true,rfl,fun h=>by cases h⟩,HK1.out⟩
  ·have hd:decide (mx<(N:Int))=false:=decide_eq_false hgt;go_wp2;go_loopw [10,9] (fun vi vn wr=>∃ (k:Nat) (x:Int),vi=.int .i64 k∧k≤N∧vn=.int .i64 x∧Hid (∀ j,(h:j<rows.length)→j<k→rows[j].vs.length≤300)∧Hid (Keep w wr)) (fun vi _ _=>N-(intOf vi).toNat)
   case atStart=>exact ⟨0,_,rfl,Nat.zero_le _,rfl,(fun j _ h=>absurd h (Nat.not_lt_zero _)),HK1.out⟩
   case round =>
    clear HK1;obtain ⟨k,x,rfl,hk,rfl,HS,HK⟩:=hrel
    by_cases hlt:k<N
    ·have hlt2:k<rows.length:=by rw [HN.out];exact hlt
     obtain ⟨b,off,hA,hb,h0⟩:=sl_rw (HR.out.keep HK.out) k hlt2;have HSR:=lh ((HRA.out rows[k] (List.getElem_mem hlt2)).keep HK.out);have HNX:=lh (show rows[k].vs.length≤300→∀ j,(h:j<rows.length)→j<k+1→rows[j].vs.length≤300 from fun h9 j hj hjk=>by
      rcases Nat.lt_or_ge j k with h8|h8
      ·exact HS.out j hj h8
      ·have:j=k:=by omega
       subst this;exact h9)
     subst hA;generalize rows[k]=r at h0 HSR HNX;obtain ⟨rA2,rc2,vs⟩:=r;simp only at h0 HSR HNX;have hvl:=sl_len HSR.out
     by_cases h300:(300:Int)<(vs.length:Int)
     ·have hd2:decide ((300:Int)<(vs.length:Int))=true:=decide_eq_true h300;go_wp2;go_ret;exact ⟨⟨true,rfl,fun h=>by cases h⟩,HK.out⟩
     ·have hd2:decide ((300:Int)<(vs.length:Int))=false:=decide_eq_false h300;have HN2:=lh (HNX.out (by omega));clear HNX HS;go_wp2_with (go_at_call 58;refine hold ?_);refine unhold ?_;refine (great_any rA2 rc2 vs 300 _ HSR.out).mono ?_;rintro e w2 ⟨rfl,rfl⟩
      cases hgv:greatV vs 300
      ·clear hgv;go_wp2;go_loopw [11,9] (fun vj vn wq=>∃ (j:Nat) (x:Int),vj=.int .i64 j∧j≤vs.length∧vn=.int .i64 x∧wq=wr) (fun vj _ _=>vs.length-(intOf vj).toNat)
       case atStart=>exact ⟨0,_,rfl,Nat.zero_le _,rfl,rfl⟩
       case round =>
           obtain ⟨j,y,rfl,hj,rfl,rfl⟩:=hrel
           by_cases hjl:j<vs.length
           ·obtain ⟨b2,off2,hA2,hb2,c0,c1,c2⟩:=sl_val HSR.out j hjl;subst hA2;go_wp2;go_roundw
            case rel=>exact ⟨j+1,_,by go_num,by omega,rfl,trivial⟩
            case measure=>simp [intOf];omega
           ·have:j=vs.length:=by omega
            subst this;go_wp2;go_roundw
            case rel=>exact ⟨k+1,_,by go_num,by omega,rfl,HN2.out,HK.out⟩
            case measure=>simp [intOf];omega
      ·clear hgv;go_wp2;go_ret;exact ⟨⟨true,rfl,fun h=>by cases h⟩,HK.out⟩
    ·have hkn:k=N:=by omega
     subst hkn;go_wp2;go_ret;exact ⟨⟨_,rfl,fun _=>⟨by omega,fun r hr=>by
      obtain ⟨i,hi,rfl⟩:=List.getElem_of_mem hr;exact HS.out i hi (by rw [← HN.out];exact hi)⟩⟩,HK.out⟩
 ·go_wp2;go_ret;exact ⟨⟨true,rfl,fun h=>by cases h⟩,HK1.out⟩
theorem great22_any(A B:Option Addr)(n m:Nat)(cs:List Col)(c:Cfg)(rows:List Rw)(w:World)(h:Sl w 2 Col.cells A n cs)(hz:∀ x∈cs,x.name.size≤140737488355328)(hc:CfgAt w c)(hr:Sl w 1 Rw.cells B m rows)(hra:RowsAt w rows) :
 Calls Tryz.prog 6 #[.slice A cs.length n,c.v,.slice B rows.length m] w fun e w'=>(∃ g,e=.returned (.bool g)∧(g=false→(rows.length:Int)≤60∧∀ r∈rows,r.vs.length≤300))∧Keep w w':=by
 have HG:=lh (fun W (hW:Keep w W)=>rgreat18_any A B n m cs c rows 60 W (h.keep hW) hz (hc.keep hW) (hr.keep hW) (hra.keep hW));obtain ⟨s0,iA,ic,iv,rA,rc,rv,sA,sc,sp,lf⟩:=c;simp only [Cfg.v] at HG ⊢;clear h hz hc hr hra;go_enter Tryz.func6,Tryz.ntmps6;go_upto_region 1 with fail;have hB:BoxA w (w.alloc (.cells #[.int .i64 s0,.slice iA iv.length ic,.slice rA rv.length rc,.slice sA sp.length sc,.int .i64 lf] 26)) [.int .i64 s0,.slice iA iv.length ic,.slice rA rv.length rc,.slice sA sp.length sc,.int .i64 lf]:=BoxA.start (t:=26) (Keep.refl _);generalize hwb:World.alloc w _=wb at hB ⊢;have hbs:=hB.lt;have x0:=hB.at_ 0 _ rfl;have x1:=hB.at_ 1 _ rfl;have x2:=hB.at_ 2 _ rfl;have x3:=hB.at_ 3 _ rfl;have x4:=hB.at_ 4 _ rfl;have HKB:=lh hB.keep;clear hwb hB;generalize w.heap.size=g0 at hbs x0 x1 x2 x3 x4 ⊢;go_wp2_with (go_at_call 27;refine hold ?_);refine unhold ?_;refine (HG.out _ HKB.out).mono ?_;rintro e w1 ⟨⟨b,rfl,hb⟩,hk1⟩;have HK1:=lh (HKB.out.trans hk1);have HB:=lh hb;clear x0 x1 x2 x3 x4 hk1 HG hbs hb;go_wp2;go_ret;exact ⟨⟨b,rfl,HB.out⟩,HK1.out⟩
theorem lcol_any(A:Option Addr)(c p:Nat)(rows:List Rw)(w:World)(h:Sl w 1 Rw.cells A c rows)(hs:RowsAt w rows)(hl:rows.length≤1000)(hp:∀ r∈rows,p<r.vs.length) :
 Calls Tryz.prog 18 #[.slice A rows.length c,.int .i64 p] w fun e w'=>∃ v,e=.returned v∧Own w' w.heap.size 72 3 Val.cells v (colV (rows.map (·.vs)) p)∧Keep w w':=by
 have H:=lh h;have HS:=lh hs;have HP:=lh hp;generalize hn:rows.length=n at hl ⊢;have HN:=lh hn;clear h hs hn hp;go_enter Tryz.func18,Tryz.ntmps18;go_wp2;go_loopw [9,5] (fun i v wr=>∃ (k:Nat) (o:Value),k≤n∧i=.int .i64 k∧o=v∧Hid (Own wr w.heap.size 72 3 Val.cells o (colV ((rows.take k).map (·.vs)) p))∧Hid (Keep w wr)) (fun i _ _=>n-(intOf i).toNat)
 case atStart=>exact ⟨0,_,Nat.zero_le _,rfl,rfl,Own.nil_ _ _ _ _ _,(by repeat first|exact kp0|apply kp1|apply kp2|apply kp3|apply kp4)⟩
 case round =>
  obtain ⟨k,o,hk,rfl,rfl,HO,HK⟩:=hrel
  by_cases hlt:k<n
  ·have hlt2:k<rows.length:=by rw [HN.out];exact hlt
   obtain ⟨b,off,hA,hb,h0⟩:=sl_rw (H.out.keep HK.out) k hlt2;have hpk:=HP.out _ (List.getElem_mem hlt2);have HSR:=lh ((HS.out rows[k] (List.getElem_mem hlt2)).keep HK.out);have HTK:=lh (show colV ((rows.take (k+1)).map (·.vs)) p=colV ((rows.take k).map (·.vs)) p++[rows[k].vs.getD p zeroVal] by rw [List.take_succ_eq_append_getElem hlt2,List.map_append];simp [colV]);have hcl:(colV ((rows.take k).map (·.vs)) p).length=k:=by simp [colV];omega
   subst hA;generalize rows[k]=r at h0 HSR HTK hpk;obtain ⟨rA,rc,vs⟩:=r;simp only at h0 HSR HTK hpk;obtain ⟨b2,off2,hA2,hb2,c0,c1,c2⟩:=sl_val HSR.out p hpk;have HVP:=lh (show vs.getD p zeroVal=vs[p] by simp [hpk]);subst hA2;generalize vs[p]=x at c0 c1 c2 HVP;obtain ⟨xk,xn,xs⟩:=x;simp only at c0 c1 c2;generalize colV ((rows.take k).map (·.vs)) p=L at HO HTK hcl;have HCL:=lh hcl;have hz9:=HK.out.size;clear hcl;go_wp2_with (at_builtin;refine hold ?_);refine unhold ?_;have HO3:Own (wr.alloc (.cells #[.int .u8 xk,.int .i64 xn,.string xs] 72)) w.heap.size 72 3 Val.cells o L:=HO.out.keep (Keep.alloc (Keep.refl _) _);refine wpList_app elt_val val_len val_one rfl (.tmp 12) (.tmp 20) rfl (ys:=[⟨xk,xn,xs⟩]) HO3 rfl rfl (sl_one _ (by omega) (by omega) (val_at _ (by simp [go_sem]) (by simp [go_sem]) (by simp [go_sem]))) (by have:=HCL.out;simp;omega) (by simp;omega) ?_;intro v1 w2 hown2 hg2 _;have ⟨a1,a2,a3⟩:=HO3.after hg2 (HK.out.trans (by repeat first|exact kp0|apply kp1|apply kp2|apply kp3|apply kp4)) (Nat.le_refl _);have HO4:=lh hown2;have HA1:=lh a1;clear hown2 hg2 HO3 a3;go_wp2;go_roundw
   case rel=>exact ⟨k+1,_,by omega,by go_num,rfl,(by show Own _ _ _ _ _ _ _;rw [HTK.out,HVP.out];exact HO4.out),HA1.out⟩
   case measure=>simp [intOf];omega
  ·have hkl:k=n:=by omega
   subst hkl;rw [← HN.out,List.take_length] at HO;go_wp2;go_ret;exact ⟨_,rfl,HO.out,HK.out⟩
theorem ifq_ne{q p:Nat}(h:p≠q)(L:List Nat):(L++if q<p+1 then [q] else [])=L++if q<p then [q] else []:=by
 congr 1
 by_cases h1:q<p
 ·rw [if_pos h1,if_pos (by omega)]
 ·rw [if_neg h1,if_neg (by omega)]
theorem ifq_eq(q:Nat)(L:List Nat):(L++if q<q+1 then [q] else [])=(L++if q<q then [q] else [])++[q]:=by
 rw [if_pos (Nat.lt_succ_self q),if_neg (Nat.lt_irrefl q),List.append_nil]
theorem lids_any(kc kt:Int)(A:Option Addr)(c:Nat)(xs:List Val)(w:World)(hkt:kt=if kc=2 then 2 else 1)(h:Sl w 3 Val.cells A c xs)(he:dErr kt xs=0)(hw:∀ x∈xs,x.s.size≤maxLen)(hl:xs.length≤64) :
 Calls Tryz.prog 20 #[.int .u8 kc,.slice A xs.length c] w fun e w'=>∃ A' c' v,e=.returned (.tuple #[.slice A' (dOwn xs).length c',v])∧Sl w' 3 Val.cells A' c' (dOwn xs)∧Own w' w.heap.size 3 1 n64V v (idsOf xs)∧Keep w w':=by
 have HD:=lh he;have HRO:=lh (fun W (hW:Keep w W)=>rof_any kt A c xs W (h.keep hW) hw (by omega));have H:=lh h;have hro:rOf kt xs=(dOwn xs,0):=by rw [rOf_d,if_pos he]
 rw [hro] at HRO;have hsrt:=(dOwn_sorted xs).1;have HPL:=lh (show ∀ x∈xs,∀ p (hp:p<(dOwn xs).length),eqV (dOwn xs)[p] x=decide (p=lower (dOwn xs) x) from fun x hx p hp=>by
  have h1:=at_hit hsrt p hp (v:=x);rw [Bool.eq_iff_iff,eqV_iff,decide_eq_true_iff,h1];exact ⟨fun h=>h.2,fun h=>⟨(own_place hx).1,h⟩⟩)
 have HLW:=lh (show ∀ x∈xs,lower (dOwn xs) x<(dOwn xs).length from fun x hx=>(own_place hx).2);have hdl:=dOwn_len xs;have hil:(idsOf xs).length=xs.length:=by simp [idsOf]
 have HIX:=lh (show ∀ i (hi:i<xs.length),(idsOf xs).take (i+1)=(idsOf xs).take i++[lower (dOwn xs) xs[i]] from fun i hi=>by
  rw [List.take_succ_eq_append_getElem (by omega)];simp [idsOf])
 have HTA:=lh (show (idsOf xs).take xs.length=idsOf xs by rw [← hil];exact List.take_length);generalize idsOf xs=I at hil HIX HTA ⊢;generalize dOwn xs=D at HPL HLW hdl HRO HIX ⊢;generalize hn:xs.length=n at hl hdl HRO HTA ⊢;have HN:=lh hn;have HDL:=lh hdl;clear h he hw hro hsrt hn;have hk:(decide (kc=2))=true∨decide (kc=2)=false:=by cases decide (kc=2)<;>simp
 rcases hk with hk|hk
 all_goals
  have hk2:=hk;simp only [decide_eq_true_iff,decide_eq_false_iff_not] at hk2
  first
   | (have hkt2:kt=2:=by rw [hkt,if_pos hk2])
   | (have hkt2:kt=1:=by rw [hkt,if_neg hk2])
  subst hkt2;clear hkt;go_enter Tryz.func20,Tryz.ntmps20;go_wp2_with (go_at_call 48;refine hold ?_);refine unhold ?_;refine (HRO.out _ (Keep.refl _)).mono ?_;rintro e w1 ⟨A',c',rfl,hsl,hk1⟩;have HSL:=lh hsl;have HK1:=lh hk1;have hd64:D.length≤64:=by have:=HDL.out;omega
  clear hsl hk1 HRO hdl;go_wp2;go_loopw [22,9] (fun i v wr=>∃ (k:Nat) (o:Value),k≤n∧i=.int .i64 k∧o=v∧Hid (Own wr w1.heap.size 3 1 n64V o (I.take k))∧Hid (Keep w1 wr)) (fun i _ _=>n-(intOf i).toNat)
  case atStart=>exact ⟨0,_,Nat.zero_le _,rfl,rfl,Own.nil_ _ _ _ _ _,Keep.refl _⟩
  case round =>
   obtain ⟨k,o,hkn,rfl,rfl,HO,HK⟩:=hrel
   by_cases hlt:k<n
   ·have hlt2:k<xs.length:=by rw [HN.out];exact hlt
    obtain ⟨b,off,hA,hb,c0,c1,c2⟩:=sl_val (H.out.keep HK1.out) k hlt2;have HIK:=lh (HIX.out k hlt2);have HPK:=lh (HPL.out _ (List.getElem_mem hlt2));have hlw:=HLW.out _ (List.getElem_mem hlt2);generalize hxk:xs[k]=x at c0 c1 c2 HIK HPK hlw;generalize lower D x=q at HIK HPK hlw;obtain ⟨xk,xn,xs0⟩:=x;simp only at c0 c1 c2;have hAe:A=some ⟨b,off,none⟩:=hA;clear hxk hA;have C0:=lh c0;have C1:=lh c1;have C2:=lh c2;have HB:=lh hb;clear c0 c1 c2 hb;subst hAe;obtain ⟨wa,hwa⟩:∃ wa,wa=wr:=⟨_,rfl⟩;subst hwa;go_wp2;go_loopw [27,9] (fun i v wq=>∃ (p:Nat) (o2:Value),p≤D.length∧i=.int .i64 p∧o2=v∧Hid (Own wq w1.heap.size 3 1 n64V o2 (I.take k++if q<p then [q] else []))∧Hid (Keep w1 wq)) (fun i _ _=>D.length-(intOf i).toNat)
    case atStart=>exact ⟨0,_,Nat.zero_le _,rfl,rfl,(by show Own _ _ _ _ _ _ _;rw [if_neg (by omega),List.append_nil];exact HO.out),HK.out⟩
    case round =>
     obtain ⟨p,o2,hp,rfl,rfl,HO2,HK2⟩:=hrel
     by_cases hpl:p<D.length
     ·obtain ⟨b2,off2,hA2,hb2,d0,d1,d2⟩:=sl_val (HSL.out.keep HK2.out) p hpl;have c0:=(HK2.out.cell (p:=⟨b,off+k*3,none⟩) HB.out).trans C0.out;have c1:=(HK2.out.cell (p:=⟨b,off+k*3+1,none⟩) HB.out).trans C1.out;have c2:=(HK2.out.cell (p:=⟨b,off+k*3+2,none⟩) HB.out).trans C2.out;have hb3:=Nat.lt_of_lt_of_le HB.out HK2.out.size;have hpe:=HPK.out p hpl;generalize D[p]=y at d0 d1 d2 hpe;obtain ⟨yk,yn,ys⟩:=y;simp only [eqV] at d0 d1 d2 hpe;subst hA2
      by_cases hpq:p=q
      ·have hpe2:eqC yk yn xk xn ys xs0=true:=by rw [hpe];simpa using hpq
       have HPQ:=lh hpq;clear hpe hpq;have hz9:=HK2.out.size;go_upto_region 12 with fail;go_quiet (fail);go_wp2_with (at_builtin;refine hold ?_);refine unhold ?_;have HO3:Own ((wr.drewN nq).alloc (.cells #[.int .i64 p] 3)) w1.heap.size 3 1 n64V o2 (I.take k++if q<p then [q] else []):=HO2.out.keep (by repeat first|exact kp0|apply kp1|apply kp2|apply kp3|apply kp4);have hcw:((wr.drewN nq).alloc (.cells #[.int .i64 p] 3)).cell? ⟨(wr.drewN nq).heap.size,0,none⟩=some (.int .i64 p):=by generalize wr.drewN nq=W0;simp [go_sem]
       refine wpList_app elt_int n64_len n64_one rfl (.tmp 39) (.tmp 41) rfl (ys:=[p]) HO3 rfl rfl (sl_one _ (by omega) (by omega) (fun j u hu=>by
        match j,hu with
        | 0,hu=>cases hu;exact hcw)) (by
        have h1:(I.take k).length≤k:=List.length_take_le _ _;have h2:(if q<p then [q] else []).length≤1:=by split<;>simp
        rw [List.length_append,List.length_singleton];omega) (by simp;omega) ?_
       intro v1 w2 hown2 hg2 _;have ⟨a1,a2,a3⟩:=HO3.after hg2 (HK2.out.trans (by repeat first|exact kp0|apply kp1|apply kp2|apply kp3|apply kp4)) (Nat.le_refl _);have HO4:=lh hown2;have HA1:=lh a1;clear hown2 hg2 HO3 a3;go_wp2;go_roundw
       case rel=>exact ⟨p+1,_,by omega,by go_num,rfl,(by show Own _ _ _ _ _ _ _;have:=HO4.out;rw [← HPQ.out] at this ⊢;rw [ifq_eq];exact this),HA1.out⟩
       case measure=>simp [intOf];omega
      ·have hpe2:eqC yk yn xk xn ys xs0=false:=by rw [hpe];simpa using hpq
       clear hpe;go_upto_region 12 with fail;go_quiet (fail);go_wp2;go_roundw
       case rel=>exact ⟨p+1,_,by omega,by go_num,rfl,(by show Own _ _ _ _ _ _ _;rw [ifq_ne hpq];exact HO2.out.keep (by repeat first|exact kp0|apply kp1|apply kp2|apply kp3|apply kp4)),HK2.out.trans (by repeat first|exact kp0|apply kp1|apply kp2|apply kp3|apply kp4)⟩
       case measure=>simp [intOf];omega
     ·have hpe:p=D.length:=by omega
      have HOE:=lh (show Own wr w1.heap.size 3 1 n64V o2 (I.take (k+1)) by rw [HIK.out];have:=HO2.out;rw [if_pos (by omega)] at this;exact this);subst hpe;go_wp2;go_roundw
      case rel=>exact ⟨k+1,_,by omega,by go_num,rfl,HOE.out,HK2.out⟩
      case measure=>simp [intOf];omega
   ·have hkn2:k=n:=by omega
    subst hkn2;rw [HTA.out] at HO;go_wp2;exact bodyPost_ret (v:=.tuple #[.slice A' D.length c',o]) (by simp [results,Tryz.results20,go_sem]) rfl ⟨A',c',o,rfl,HSL.out.keep HK.out,HO.out.base_mono HK1.out.size,HK1.out.trans HK.out⟩
end Go.Proofs.YtpkocnpamcchcaaGreatDoor
