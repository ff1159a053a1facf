/- Parts of the proof. -/
import Derived.Test.YtpkocnpamcchcaaGreatDoorK37
import Derived.Test.YtpkocnpamcchcaaGreatDoorK42
set_option maxRecDepth 100000
set_option maxHeartbeats 4000000
set_option linter.unusedSimpArgs false
set_option linter.unusedVariables false
set_option linter.unnecessarySimpa false
namespace Go.Proofs.YtpkocnpamcchcaaGreatDoor
open Go.RowKit Go.Zone Go.Shelf
attribute [local go_sem] zone stepZ fill lookFs goes goesUpon dropFs cell_gro frozen_gro size_gro lt_add drew_gro tape_gro keep_refl
attribute [local go_sem] lt_add2 lt_add3 lt_add4 lt_add5 lt_add6 lt_add7 lt_add8 lt_add9 lt_add10 lt_add11 lt_add12
theorem setOk_up{s:Option Roa.Con}{B C:Nat}(h:Roa.SetOk s B)(hB:B≤C):Roa.SetOk s C:=⟨h.good,h.notW,fun c e=>Nat.le_trans (h.w c e) hB⟩
theorem setsB_len(L:List (Option Roa.Con))(B:Nat)(h:∀ s∈L,Roa.SetOk s B)(hl:L.length≤1000):(L.flatMap setB).length≤1000*(16+2*B):=by
 have key:∀ L:List (Option Roa.Con),(∀ s∈L,Roa.SetOk s B)→(L.flatMap setB).length≤L.length*(16+2*B):=fun L=>by
  induction L with
  | nil=>intro _;simp
  | cons a l ih =>
    intro h;have h1:=ih fun s hs=>h s (List.mem_cons_of_mem _ hs);have h2:=setB_len (h a (List.mem_cons_self ..));rw [List.flatMap_cons,List.length_append,List.length_cons,Nat.add_mul];omega
 exact Nat.le_trans (key L h) (Nat.mul_le_mul_right _ hl)
theorem srtL_few(many:Nat)(ids:List Nat):(srtL (srtF many ids)).length≤ids.length:=by
 unfold srtF
 cases h:srtTo many ids ids.length with
 | none=>simp [srtL]
 | some l =>
   have:=srtTo_len many ids ids.length l h;simp only []
   split
   ·exact this
   ·simp [srtL]
theorem srtL_le(many:Nat)(ids:List Nat)(h:ids.length≤64):(srtL (srtF many ids)).length≤16777216:=by
 have:=srtL_few many ids;omega
theorem srtB_few(many:Nat)(ids:List Nat):(srtB (srtF many ids)).length≤4*ids.length:=by
 have key:∀ l:List Nat,(l.flatMap (le · 4)).length=4*l.length:=fun l=>by
  induction l with
  | nil=>rfl
  | cons a l ih=>rw [List.flatMap_cons,List.length_append,le_len,ih,List.length_cons];omega
 have:=srtL_few many ids;unfold srtB;rw [key];omega
theorem srtB_le(many:Nat)(ids:List Nat)(h:ids.length≤64):(srtB (srtF many ids)).length≤256:=by
 have:=srtB_few many ids;omega
def nameG(pre:ByteArray)(p:Nat):ByteArray:=pre++(⟨#[46]⟩++itoaS p)
def sInv:ByteArray:=⟨#[105,110,118,101,114,116,101,100]⟩
def sRan:ByteArray:=⟨#[114,97,110,103,101,100]⟩
def sSrt:ByteArray:=⟨#[115,111,114,116,101,100]⟩
def dimG(k:Int)(p n:Nat)(xs:List Val)(i r s:Bool):List (ByteArray × List UInt8) :=
 [(nameG sDict p,dBytes k (dOwn xs)),(nameG sFwd p,idxB n (dOwn xs).length (wdF (dOwn xs).length) (packB (idsOf xs) (wdF (dOwn xs).length)))]++(if i then [(nameG sInv p,(invS (idsOf xs) (dOwn xs).length).flatMap setB)] else [])++(if r then [(nameG sRan p,(ranS (idsOf xs) (dOwn xs).length).flatMap setB)] else [])++(if s then [(nameG sSrt p,srtB (srtF (dOwn xs).length (idsOf xs)))] else [])
theorem mdim_any{pv f o M:Value}(b base gi gq:Nat)(S:List Sec)(cs:List Col)(A X:Option Addr)(n mR pl:Nat)(rows:List Rw)(s0:Int)(iA rA:Option Addr)(ic rc:Nat)(iv rv:List Bool)(vi vq:List Value)(w:World)
 (hL:Sl w 2 Col.cells A n cs) (hX:Sl w 1 Rw.cells X mR rows) (hRA:RowsAt w rows) (hrl:rows.length≤64) (hiv:Sl w 1 flV iA ic iv) (hrv:Sl w 1 flV rA rc rv)
 (hpl:pl<cs.length) (hp10:pl<1000)
 (hR:Row w b 77 (mkC (.slice A cs.length n) (.int .i64 s0) (.slice iA iv.length ic) (.slice rA rv.length rc) pv f (.slice X rows.length mR) o (.slice (some ⟨gi,0,none⟩) vi.length vi.length) (.slice (some ⟨gq,0,none⟩) vq.length vq.length) M))
 (hgi:Row w gi 24 vi) (hgq:Row w gq 3 vq) (hpi:pl<vi.length) (hpq:pl<vq.length) (hO:OwnC w base o S) (hS:SecsO w S) (hb:b<base) (hbi:gi<base) (hbq:gq<base) (hbase:base≤w.heap.size) (hl:S.length≤2000) (w0:World) (hk0:Keep w0 w) (hw0:w0.heap.size≤b∧w0.heap.size≤gi∧w0.heap.size≤gq) (htab:TabP w0) (htb:Tab w0)
 (hd:dErr (kindT cs[pl]) (colV (rows.map (·.vs)) pl)=0)
 (hiA:∀ bb off,iA=some ⟨bb,off,none⟩→bb∉[b,gi,gq]∧bb<base) (hrA:∀ bb off,rA=some ⟨bb,off,none⟩→bb∉[b,gi,gq]∧bb<base) :
 Calls Tryz.prog 34 #[.pointer (some ⟨b,0,none⟩),.int .i64 pl] w fun e w'=>e=.returned (.int .i64 0)∧∃ o' S' X',Row w' b 77 (mkC (.slice A cs.length n) (.int .i64 s0) (.slice iA iv.length ic) (.slice rA rv.length rc) pv f (.slice X rows.length mR) o' (.slice (some ⟨gi,0,none⟩) vi.length vi.length) (.slice (some ⟨gq,0,none⟩) vq.length vq.length) M) ∧
  Row w' gi 24 (vi.set pl X')∧(∃ g c,X'=.slice (some ⟨g,0,none⟩) rows.length c)∧Own w' w.heap.size 3 1 n64V X' (idsOf (colV (rows.map (·.vs)) pl))∧Row w' gq 3 (vq.set pl (.int .i64 (dOwn (colV (rows.map (·.vs)) pl)).length)) ∧
  OwnC w' base o' S'∧SecsO w' S'∧S'.map nbS=S.map nbS++dimG (kindT cs[pl]) pl rows.length (colV (rows.map (·.vs)) pl) (hasP iv (pl:Int)) (hasP rv (pl:Int)) (s0==(pl:Int))∧Turn w w' (b :: gi :: gq :: o.ownBlock.toList):=by
 have hxl:(colV (rows.map (·.vs)) pl).length=rows.length:=by simp [colV]
 have hk0:kindT cs[pl]≠0:=by unfold kindT;split<;>decide
 have HKN:=lh (show kindT cs[pl]=1∨kindT cs[pl]=2 by unfold kindT;split<;>simp);have HTC:=lh (fun W (hW:Keep w W)=>tcol_any X mR pl rows W (hX.keep hW) (hRA.keep hW) (by omega));have HKC:=lh (bkind_any cs[pl]);rw [show (if cs[pl].kind=2 then (2:Int) else 1)=kindT cs[pl] from rfl] at HKC;generalize colV (rows.map (·.vs)) pl=xs at hxl hd HTC ⊢;obtain ⟨bA,off,hA,hbA,h0,h1⟩:=sl_col hL pl hpl;generalize hcl:cs[pl]=cl at hd hk0 HKN HKC h0 h1 ⊢;have HSM:=lh (err_small hd);have HDS:=lh (dOwn_sorted xs).1;have HFO:=lh (fun v (hv:v∈xs)=>find_own hk0 hv);have HIL:=lh (ids_lt xs);have HMF:=lh (own_mayF xs (by omega));have hdl:(dOwn xs).length≤1000000:=Nat.le_trans (dOwn_len xs) (by omega);have HD:=lh hd;have HR:=lh hR;have HGI:=lh hgi;have HGQ:=lh hgq;have HO:=lh hO;have HS:=lh hS;have HIV:=lh hiv;have HRV:=lh hrv;have HXL:=lh hxl;have HK0:=lh hk0;have HIA:=lh hiA;have HRAA:=lh hrA;have hblt:=hR.lt;have x6:=hR.cell 6 _ rfl;clear hR hgi hgq hO hS hL hX hRA hiv hrv hd hk0 hcl hiA hrA;generalize hrn:rows.length=N at *;subst hA;obtain ⟨nm,kd⟩:=cl;simp only at h0 h1;go_enter Tryz.func34,Tryz.ntmps34;go_wp2_with (go_at_call 66;refine hold ?_);refine unhold ?_;refine (HTC.out _ (Keep.refl _)).mono ?_;rintro e w1 ⟨g1,rfl,hrow1,hg1,hk1⟩;have HK1:=lh hk1;have HSL:=lh (hrow1.sl_blk val_len (by rw [hxl];omega) (Nat.le_of_eq hxl) (by omega):Sl w1 3 Val.cells (some ⟨g1,0,none⟩) N xs);have c0:=(hk1.cell (p:=⟨bA,off+pl*2,none⟩) hbA).trans h0;have c1:=(hk1.cell (p:=⟨bA,off+pl*2+1,none⟩) hbA).trans h1
 have hbA1:=Nat.lt_of_lt_of_le hbA hk1.size;have hR1:=HR.out.keep hk1;have x0:=hR1.cell 0 _ rfl;have hb1:=hR1.lt;clear hk1 x6 hR1 hrow1 hg1 HTC h0 h1 hxl;go_wp2_with (go_at_call 71;refine hold ?_);refine unhold ?_;refine (HKC.out _).mono ?_;rintro e w2 ⟨rfl,hk2⟩;have HK2:=lh (HK1.out.trans hk2);have HSL2:=lh (HSL.out.keep hk2);clear hk2 c0 c1 x0 hbA1 HSL;generalize hke:kindT ⟨nm,kd⟩=kt at HKC HD HFO HKN HK0 ⊢;have HKE:=lh hke;clear hke;go_wp2_with (go_at_call 70;refine hold ?_);refine unhold ?_;have hof:=of_new kt (some ⟨g1,0,none⟩) N xs w2 HSL2.out (by rw [HXL.out];omega);rw [HXL.out] at hof;refine hof.mono ?_;clear hof;rintro e w3 ⟨v,rfl,hdn,hk3⟩;rw [HD.out] at hdn ⊢
 rcases hdn with ⟨h,_⟩ | ⟨_,bd,Ad,cd,rfl,hda,hbd,hfr⟩
 ·exact absurd rfl h
 have HK3:=lh (HK2.out.trans hk3);have HSL3:=lh (HSL2.out.keep hk3);have HDA:=lh hda;have HBD:=lh (Nat.le_trans HK2.out.size hbd);have HFR:=lh (show ∀ bb off,Ad=some ⟨bb,off,none⟩→0<(dOwn xs).length→w.heap.size≤bb from fun bb off e hp=>Nat.le_trans HK2.out.size (hfr bb off e hp));clear hk3 hda hbd hfr HKC HSL2;obtain ⟨i0,hi0,i1,i2,i3⟩:=info_partsV info_i64;obtain ⟨W',hmk,ho,hk⟩:=own_made1 (P:=Tryz.prog) (z:=(0:Nat)) n64_f rfl Tryz.underlying24 hi0 i1 i2 N w3.heap.size w3 (by rw [i3];omega) (by omega) (Nat.le_refl _);have HOI:=lh ho;have HKI:=lh hk;clear ho hk i0 hi0 i1 i2 i3;generalize hgI:w3.heap.size=gI at hmk HOI;have HGII:=lh hgI;clear hgI;go_wp2;clear hmk;go_loopw [47] (fun i wr=>∃ k:Nat,k≤N∧i=.int .i64 k∧Hid (Own wr gI 3 1 n64V (.slice (some ⟨gI,0,none⟩) N N) ((idsOf xs).take k++List.replicate (N-k) 0))∧Hid (Keep w3 wr)) (fun i _=>N-(intOf i).toNat)
 case atStart=>exact ⟨0,Nat.zero_le _,rfl,HOI.out,HKI.out⟩
 case round =>
  clear HOI HKI;obtain ⟨k,hk,rfl,HOI,HKI⟩:=hrel
  by_cases hlt:k<N
  ·
   have hltx:k<xs.length:=by rw [HXL.out];exact hlt
   obtain ⟨b2,off2,hA2,hb2,c0,c1,c2⟩:=sl_val (HSL3.out.keep HKI.out) k hltx
   cases hA2
   simp only [Nat.zero_add] at c0 c1 c2;have hfd:=fun W (hW:Keep w3 W)=>find_at xs[k] W (HDA.out.keep hW) HDS.out;rw [HFO.out xs[k] (List.getElem_mem hltx)] at hfd;have HFD:=lh hfd;have hidl:k<(idsOf xs).length:=by rw [idsOf,List.length_map];exact hltx
   have HTK:=lh (show (idsOf xs).take (k+1)=(idsOf xs).take k++[lower (dOwn xs) xs[k]] by rw [List.take_succ_eq_append_getElem hidl];simp [idsOf]);have hlen:((idsOf xs).take k++List.replicate (N-k) 0).length=N:=by simp;omega
   have hset:((idsOf xs).take k++List.replicate (N-k) 0).set k (lower (dOwn xs) xs[k])=(idsOf xs).take (k+1)++List.replicate (N-(k+1)) 0:=by
    rw [List.set_append_right _ _ (by rw [List.length_take];omega),List.length_take,Nat.min_eq_left (by omega),Nat.sub_self,show N-k=(N-(k+1))+1 by omega,List.replicate_succ,List.set_cons_zero,HTK.out,List.append_assoc];rfl
   have HSET:=lh hset;have HLEN:=lh hlen;obtain ⟨d0,d1,d2,d3⟩:=HOI.out.cell1 n64_f hlen.symm k (by omega);generalize ((idsOf xs).take k++List.replicate (N-k) 0)[k]'(by rw [hlen];exact hlt)=y at d0;generalize xs[k]=x at c0 c1 c2 hfd HFD HTK hset HSET;generalize lower (dOwn xs) x=q at HFD HTK HSET;obtain ⟨xk,xn,xst⟩:=x;simp only at c0 c1 c2;have HD3:=lh (show w3.heap.size≤gI from Nat.le_of_eq HGII.out);clear hfd hset hlen hidl d3;go_wp2_with (go_at_call 72;refine (HFD.out _ (HKI.out.trans (by repeat first|exact kp0|apply kp1|apply kp2|apply kp3|apply kp4))).mono ?_;rintro e w' ⟨rfl,hk'⟩;obtain ⟨p,rfl⟩:=Zone.gro_of_below _ hk';clear hk');go_roundw
   case rel =>
    refine ⟨k+1,by omega,by go_num,?_,(HKI.out.trans (by repeat first|exact kp0|apply kp1|apply kp2|apply kp3|apply kp4)).setCell HD3.out _⟩;have hk5:Keep wr ((wr.alloc (.cells #[.int .u8 xk,.int .i64 xn,.string xst] 72)).gro p):=(by repeat first|exact kp0|apply kp1|apply kp2|apply kp3|apply kp4);have h1:=(HOI.out.keep hk5).set1 n64_f HLEN.out.symm k q rfl;rw [HSET.out] at h1;exact h1
   case measure=>simp [intOf];omega
  ·have hkl:k=N:=by omega
   subst hkl;rw [Nat.sub_self,List.replicate_zero,List.append_nil] at HOI;have hil:(idsOf xs).length=k:=by rw [idsOf,List.length_map];exact HXL.out
   rw [← hil,List.take_length,hil] at HOI;have HIDL:=lh hil;clear hil;have HK4:=lh (HK3.out.trans HKI.out);generalize hwr:wr=w4 at *;clear hwr;go_upto_region 11 with fail;have HL3:=lh (show ∀ W,DictAt W bd kt Ad cd (dOwn xs)→Calls Tryz.prog 73 #[.pointer (some ⟨bd,0,none⟩)] W fun e w'=>e=.returned (.int .i64 (dOwn xs).length)∧W=w' from fun W hW=>by
    have:=len_at W hW
    rwa [if_neg HK0.out] at this)
   have HDA4:=lh (HDA.out.keep HKI.out);have HRI:=lh (HGI.out.keep HK4.out);have HRQ:=lh (HGQ.out.keep HK4.out);have hR4:=HR.out.keep HK4.out;have x8:=hR4.cell 8 _ rfl;have x9:=hR4.cell 9 _ rfl;have z0:=HRI.out.cell pl _ (List.getElem?_eq_getElem hpi);have z1:=HRQ.out.cell pl _ (List.getElem?_eq_getElem hpq);have hb4:=hR4.lt;have hi4:=HRI.out.lt;have hq4:=HRQ.out.lt;have q0:=HRI.out.soft pl;have q1:=HRQ.out.soft pl;have hne:=row_ne HRI.out HRQ.out (by decide);have hne2:gq≠gi:=fun e=>hne e.symm;have HZ4:=lh HK4.out.size;generalize vi[pl]=zi at z0;generalize vq[pl]=zq at z1;have HNA:=lh (show ∀ bb off,Ad=some ⟨bb,off,none⟩→0<(dOwn xs).length→bb∉[gi,gq] from fun bb off e hp hm=>by have:=HFR.out bb off e hp;simp at hm;omega);have HNI:=lh (show bd∉[gi,gq] from fun e=>by have:=HBD.out;simp at e;omega);have HDT:=lh (fun W (hT:Turn w4 W [gi,gq])=>HDA4.out.turn1 hT HNI.out HNA.out);clear hR4;go_cut [] from 62 to 76 (fun wx=>Hid (Turn w4 wx [gi,gq])∧Hid (Row wx gi 24 (vi.set pl (.slice (some ⟨gI,0,none⟩) k k)))∧Hid (Row wx gq 3 (vq.set pl (.int .i64 (dOwn xs).length))))
   case first =>
    go_region_with (go_at_call 73;refine (HL3.out _ (HDT.out _ (by repeat (first|exact Turn.refl _ _|apply Turn.alloc|apply Turn.gro|apply Turn.drew|apply Turn.drewN|(refine Turn.setc ?_ (by simp) _))))).mono ?_;rintro e w' ⟨rfl,rfl⟩)
    all_goals
     go_wp2_with fail;go_meet;exact ⟨(by repeat (first|exact Turn.refl _ _|apply Turn.alloc|apply Turn.gro|apply Turn.drew|apply Turn.drewN|(refine Turn.setc ?_ (by simp) _))),(HRI.out.set pl _).other pl _ hne2,(HRQ.out.other pl _ hne).set pl _⟩
   case rest =>
    rename World=>w5;obtain ⟨HT5,HGI5,HGQ5⟩:=hcut;have HTA:=lh ((Turn.keep HK4.out [gi,gq]).trans HT5.out);have hbg:b∉[gi,gq]:=fun e=>by
     simp only [List.mem_cons,List.not_mem_nil,or_false] at e
     rcases e with e|e
     ·exact row_ne HR.out HGI.out (by decide) e
     ·exact row_ne HR.out HGQ.out (by decide) e
    have HBG:=lh hbg;have HOX:=lh HO.out;have HR5:=lh (HTA.out.row HR.out hbg);have HO5:=lh (show OwnC w5 base o S from Own.turn HO.out HTA.out fun i hi e=>by
     have:=(HO.out.lt _ e).1;simp at hi;omega)
    have HS5:=lh (HS.out.turn HTA.out fun i hi _=>by
     simp only [List.mem_cons,List.not_mem_nil,or_false] at hi
     rcases hi with rfl|rfl
     ·exact Row.noU8 HGI.out (by decide)
     ·exact Row.noU8 HGQ.out (by decide))
    have HDA5:=lh (HDT.out _ HT5.out);have HSZ5:=lh HTA.out.size;have HIS:=lh (show Sl w5 1 n64V (some ⟨gI,0,none⟩) k (idsOf xs) by
     obtain ⟨A8,c8,hv8,hsl⟩:=HOI.out.sl (fun _=>rfl) (by have:=HIDL.out;omega);injection hv8 with hv8 _ hc8;subst hv8;subst hc8;exact hsl.turn HT5.out fun bb off e hm=>by
      injection e with e;injection e with e1 e2;have:=HGII.out;have:=HK3.out.size;simp at hm;omega)
    have HFD:=lh (fof_any (some ⟨gI,0,none⟩) k (dOwn xs).length (idsOf xs));rw [HIDL.out] at HFD HMF;have HK05:=lh (show Keep w0 w5 from Turn.after hk0 HTA.out (fun i hi=>by simp only [List.mem_cons,List.not_mem_nil,or_false] at hi;rcases hi with h|h<;>omega));have HTB:=lh (fun W (hW:Keep w5 W)=>itoa_any pl (by omega) W (htab.keep (HK05.out.trans hW)));have hqsz:=itoaS_size pl hp10;generalize hss:itoaS pl=ss at HTB hqsz;have HSS:=lh hss;obtain ⟨qs,hqs⟩:∃ qs,ss.size=qs:=⟨_,rfl⟩;have hqs3:qs≤3:=hqs ▸ hqsz;clear hss hqsz;have HISK:=lh HIS.out;have HOIK:=lh (show Own w5 gI 3 1 n64V (.slice (some ⟨gI,0,none⟩) k k) (idsOf xs) from Own.turn HOI.out HT5.out fun i hi e=>by
     simp only [Value.ownBlock,Option.some.injEq] at e;simp only [List.mem_cons,List.not_mem_nil,or_false] at hi;have:=HGII.out;have:=HK3.out.size
     rcases hi with h|h<;>omega)
    have HGIZ:=lh (show w.heap.size≤gI from by have:=HGII.out;have:=HK3.out.size;omega);have HDAK:=lh HDA5.out;have HL3K:=lh HL3.out;have HIDLK:=lh HIDL.out;have HSZW:=lh HTA.out.size;have hmany:(dOwn xs).length≤1000:=Nat.le_trans (dOwn_len xs) (by have:=HXL.out;omega);have HILK:=lh HIL.out;clear x8 x9 z0 z1 hb4 hi4 hq4 q0 q1 hne hne2 HT5 HRI HRQ HDA4 HDA HGI HGQ HO HS HK3 HK2 HK1 hbg HOI HKI HDT HSL3;go_wp2_with (first|(go_at_call 68;refine (HTB.out _ (by repeat first|exact kp0|apply kp1|apply kp2|apply kp3|apply kp4)).mono ?_;rintro e w' ⟨rfl,hk⟩;(first|obtain ⟨p,rfl⟩:=Zone.gro_of_gro _ _ hk|obtain ⟨p,rfl⟩:=Zone.gro_of_below _ hk);clear hk)|(go_at_call 73;refine (HL3.out _ (HDA5.out.keep (by repeat first|exact kp0|apply kp1|apply kp2|apply kp3|apply kp4))).mono ?_;rintro e w' ⟨rfl,rfl⟩)|(go_at_call 74;refine hold ?_));refine unhold ?_;refine (HFD.out _ (HIS.out.keep (by repeat first|exact kp0|apply kp1|apply kp2|apply kp3|apply kp4)) HMF.out (by omega) HIL.out).mono ?_;rintro e w6 ⟨bf,Af,cf,rfl,hix,hbf,hfa,hk6⟩;have HK6:=lh (show Keep w5 w6 from Keep.trans (Keep.gro (Keep.refl _) _) hk6);have HIX:=lh hix;have HBF:=lh (show w5.heap.size≤bf from Nat.le_trans (by simp [size_gro]) hbf);have HFA:=lh (show ∀ bb off,Af=some ⟨bb,off,none⟩→w5.heap.size≤bb from fun bb off e=>Nat.le_trans (by simp [size_gro]) (hfa bb off e))
    have HDB:=lh (fun W (hW:DictAt W bd kt Ad cd (dOwn xs))=>bytes_at kt W hW (by rcases HKN.out with e|e<;>omega) (by rcases HKN.out with e|e<;>omega) hdl (fun x hx=>by have:=HSM.out x hx;omega));clear hk6 hix hbf hfa HFD HIS HL3 HIL HMF HFO;have hfl:(packB (idsOf xs) (wdF (dOwn xs).length)).length≤100000000:=by
     have h1:(idsOf xs).length*wdF (dOwn xs).length≤1000000*24:=Nat.mul_le_mul (by have:=HIDL.out;omega) (wdF_hi _ (by omega));simp only [packB,le_len];omega
    have hwd:=wdF_lo (dOwn xs).length;have hwd2:=wdF_hi (dOwn xs).length (by omega);have HWD:=lh hwd;have HWD2:=lh hwd2;generalize hdb:dBytes kt (dOwn xs)=DB at HDB;have HDBE:=lh hdb;have hdbl:DB.length≤100000000000:=by
     rw [← hdb];have h1:=flat_vB (dOwn xs) 65535 HSM.out;have h2:(dOwn xs).length*(65535+10)≤1000000*(65535+10):=Nat.mul_le_mul_right _ hdl;simp [dBytes,le_len] at h1 ⊢;omega
    have HDBL:=lh hdbl;generalize hfb:packB (idsOf xs) (wdF (dOwn xs).length)=FB at HIX hfl;have HFBE:=lh hfb;have HFL:=lh hfl;clear hfb hdb hfl hwd hwd2 hdbl;generalize hwe:wdF (dOwn xs).length=wd at HIX HFBE HWD HWD2;have HWE:=lh hwe;clear hwe;go_wp2_with (go_at_call 75;refine hold ?_);refine unhold ?_;refine (HDB.out _ (HDA5.out.keep HK6.out)).mono ?_;rintro e w7 ⟨vb,rfl,hob,hk7⟩;obtain ⟨A7,c7,rfl,_⟩:=hob.sl b8_len (by have:=HDBL.out;omega);have HK7:=lh (HK6.out.trans hk7);have HB7:=lh (hob.base_mono (Nat.zero_le _));have HI7:=lh (HIX.out.keep hk7);clear hk7 hob HK6 HIX HDB;go_wp2_with (go_at_call 30;refine hold ?_);refine unhold ?_;refine (put_secs b base S _ A7 c7 DB _ (HR5.out.keep HK7.out) (HO5.out.keep HK7.out) hb (Nat.le_trans hbase (Nat.le_trans HSZ5.out HK7.out.size)) (by omega) (HS5.out.keep HK7.out) HB7.out).mono ?_;rintro e w8 ⟨rfl,o1,hR8,hO8,hS8,hT8,hd8⟩;have hoz:∀ g,o.ownBlock=some g→g<w5.heap.size:=fun g e=>(HO5.out.lt g e).2;have hout:∀ i,w5.heap.size≤i→i∉b :: o.ownBlock.toList:=fun i hi e=>by
     have:=HSZ5.out;rw [List.mem_cons,Option.mem_toList] at e
     rcases e with e|e
     ·omega
     ·have:=hoz _ e;omega
    have HIF:=lh (HI7.out.turn hT8 (hout _ HBF.out) (fun bb off e=>hout _ (HFA.out bb off e)));have HT8:=lh hT8;have HR8:=lh hR8;have HO8:=lh hO8;have HS8:=lh hS8;have HD8:=lh hd8;have HZ8:=lh (show base≤w8.heap.size from Nat.le_trans hbase (Nat.le_trans HSZ5.out (Nat.le_trans HK7.out.size hT8.size)));clear hR8 hO8 hS8 hT8 hd8 hoz hout HI7 HB7 HR5 HO5 HS5;go_wp2_with (go_at_call 76;refine hold ?_);refine unhold ?_;have hib:=ibytes_any _ HIF.out HWD.out (by have:=HWD2.out;omega) (by omega) (by omega) (by have:=HFL.out;omega);refine hib.mono ?_;clear hib;rintro e w9 ⟨vb,rfl,hob,hk9⟩;obtain ⟨A9,c9,rfl,_⟩:=hob.sl b8_len (by have:=HFL.out;simp [idxB,le_len];omega);have HK9:=lh hk9;have HB9:=lh (hob.base_mono (Nat.zero_le _));clear hk9 hob HIF;go_wp2_with (go_at_call 30;refine hold ?_);refine unhold ?_;refine (put_secs b base _ _ A9 c9 _ _ (HR8.out.keep HK9.out) (HO8.out.keep HK9.out) hb (Nat.le_trans HZ8.out HK9.out.size) (by simp;omega) (HS8.out.keep HK9.out) HB9.out).mono ?_;rintro e w10 ⟨rfl,o2,hR10,hO10,hS10,hT10,hd10⟩;have HOw:=HOX.out;have HTX:Turn w5 w10 (b :: o.ownBlock.toList):=((Turn.keep HK7.out _).trans (HT8.out.trans (Turn.keep HK9.out _))).trans2 hT10 fun i hi=>by
     rw [List.mem_cons,Option.mem_toList] at hi
     rcases hi with h|h
     ·exact .inl (by simp [h])
     ·rcases HD8.out with e | ⟨g,e,hg⟩
      ·rw [e] at h;exact .inl (by simp only [List.mem_cons,Option.mem_toList];exact .inr h)
      ·rw [e] at h;injection h with h;subst h;exact .inr (Nat.le_trans HK7.out.size hg)
    have hob:∀ i,i<base→i≠b→i∉b :: o.ownBlock.toList:=fun i hi hn e=>by
     rw [List.mem_cons,Option.mem_toList] at e
     rcases e with e|e
     ·exact hn e
     ·have:=(HOw.lt _ e).1;omega
    have hgb:gi≠b:=fun e=>HBG.out (by simp [e]);have hqb:gq≠b:=fun e=>HBG.out (by simp [e]);have HGI10:=lh (HTX.row HGI5.out (hob gi hbi hgb));have HGQ10:=lh (HTX.row HGQ5.out (hob gq hbq hqb));have HT10:=lh (show Turn w w10 (b :: gi :: gq :: o.ownBlock.toList) from (HTA.out.mono (fun i hi=>.inl (by simp at hi ⊢;omega))).trans (HTX.mono fun i hi=>.inl (by rw [List.mem_cons] at hi;rcases hi with h|h<;>simp [h])));have hfl:∀ bb,(bb∉[b,gi,gq]∧bb<base)→bb∉b :: gi :: gq :: o.ownBlock.toList:=fun bb h e=>by
     simp only [List.mem_cons,List.not_mem_nil,or_false,Option.mem_toList,not_or] at e h
     rcases e with e|e|e|e
     ·exact h.1.1 e
     ·exact h.1.2.1 e
     ·exact h.1.2.2 e
     ·have:=(HOw.lt _ e).1;omega
    have HIV10:=lh (fun W (hW:Keep w10 W)=>has_any iA ic iv (pl:Int) W ((HIV.out.turn HT10.out (fun bb off e=>hfl bb (HIA.out bb off e))).keep hW));have HRV10:=lh (fun W (hW:Keep w10 W)=>has_any rA rc rv (pl:Int) W ((HRV.out.turn HT10.out (fun bb off e=>hfl bb (HRAA.out bb off e))).keep hW));clear HIV10 HRV10;have HD10:=lh (show o2.ownBlock=o.ownBlock∨∃ g,o2.ownBlock=some g∧w5.heap.size≤g by
     rcases hd10 with e | ⟨g,e,hg⟩
     ·rcases HD8.out with e8 | ⟨g,e8,hg⟩
      ·exact .inl (e.trans e8)
      ·exact .inr ⟨g,e.trans e8,Nat.le_trans HK7.out.size hg⟩
     ·exact .inr ⟨g,e,Nat.le_trans (Nat.le_trans HK7.out.size (Nat.le_trans HT8.out.size HK9.out.size)) hg⟩)
    have hoB:∀ i,o.ownBlock=some i→base≤i∧i<w.heap.size:=fun i hi=>HOw.lt i hi;have HOB:=lh hoB;have hin:∀ i,i∈b :: o.ownBlock.toList→i<w.heap.size∧w0.heap.size≤i:=fun i hi=>by
     rw [List.mem_cons,Option.mem_toList] at hi
     rcases hi with hi|hi
     ·subst hi;exact ⟨by omega,hw0.1⟩
     ·have:=hoB i hi;omega
    have HIN:=lh hin;have HISW:=lh (fun W (hT:Turn w5 W (b :: o.ownBlock.toList))=>(HISK.out.turn hT fun bb off e hm=>by
     injection e with e;injection e with e1 e2;have:=(hin bb hm).1;have:=HGIZ.out;omega:Sl W 1 n64V (some ⟨gI,0,none⟩) k (idsOf xs)))
    have HOIW:=lh (fun W (hT:Turn w5 W (b :: o.ownBlock.toList))=>(HOIK.out.turn hT fun i hi e=>by
     simp only [Value.ownBlock,Option.some.injEq] at e;have:=(hin i hi).1;have:=HGIZ.out;omega:Own W gI 3 1 n64V (.slice (some ⟨gI,0,none⟩) k k) (idsOf xs)))
    have HDAW:=lh (fun W (hT:Turn w5 W (b :: o.ownBlock.toList))=>HDAK.out.turn1 hT (fun hm=>by have:=(hin _ hm).1;have:=HBD.out;omega) (fun bb off e hp hm=>by have:=(hin _ hm).1;have:=HFR.out bb off e hp;omega));have HTBW:=lh (fun W (hT:Turn w5 W (b :: o.ownBlock.toList))=>htb.keep (Turn.after HK05.out hT fun i hi=>(hin i hi).2));have HTWW:=lh (fun W (hT:Turn w5 W (b :: o.ownBlock.toList))=>(show Turn w W (b :: gi :: gq :: o.ownBlock.toList) from (HTA.out.mono (fun i hi=>.inl (by simp at hi ⊢;omega))).trans (hT.mono fun i hi=>.inl (by rw [List.mem_cons] at hi;rcases hi with h|h<;>simp [h]))));have HIVW:=lh (fun W (hT:Turn w5 W (b :: o.ownBlock.toList))=>has_any iA ic iv (pl:Int) W (HIV.out.turn (HTWW.out W hT) (fun bb off e=>hfl bb (HIA.out bb off e))));have HRVW:=lh (fun W (hT:Turn w5 W (b :: o.ownBlock.toList))=>has_any rA rc rv (pl:Int) W (HRV.out.turn (HTWW.out W hT) (fun bb off e=>hfl bb (HRAA.out bb off e))));have HGIW:=lh (fun W (hT:Turn w5 W (b :: o.ownBlock.toList))=>hT.row HGI5.out (hob gi hbi hgb));have HGQW:=lh (fun W (hT:Turn w5 W (b :: o.ownBlock.toList))=>hT.row HGQ5.out (hob gq hbq hqb));have HTX0:=lh HTX;generalize hS2e:(S++[_]++[_]:List Sec)=S2 at hO10 hS10;have HS2L:=lh (show S2.length≤2002 by rw [← hS2e];simp;omega);have HS2E:=lh hS2e;have HR10:=lh hR10;have HO10:=lh hO10;have HS10:=lh hS10;clear hR10 hO10 hS10 hT10 hd10 HB9 HR8 HO8 HS8 HTX hob hfl hoB hin hS2e HGI10 HGQ10 HT10 HGI5 HGQ5 HT8 HD8 HK7 HK9 HISK HDAK HIV HRV
    have hds5:(⟨#[46]⟩++ss:ByteArray).size=1+qs:=by rw [ByteArray.size_append,hqs];rfl
    have HWW:=lh (fun (W:World) (o9:Value) (S9:List Sec)=>(rfl:True=True));clear HWW;go_upto_region 16 with fail;have xf:=HR10.out.cell 2 _ rfl;have hbf:=HR10.out.lt;go_wp2_with (go_at_call 56;refine hold ?_);refine unhold ?_;refine (HIVW.out _ HTX0.out).mono ?_;rintro e wh ⟨rfl,hkh⟩;have HTH:=lh (HTX0.out.keep_ hkh);have HKH:=lh hkh;clear hkh xf hbf;have hbf:=(HR10.out.keep HKH.out).lt;generalize hhb:hasP iv (pl:Int)=hb0;have HHB:=lh hhb;clear hhb;go_upto_if 105 with fail;go_cut [14,15] from 106 to 118 (fun _ _ wx=>∃ ob Sb,Hid (Row wx b 77 (mkC (.slice (some ⟨bA,off,none⟩) cs.length n) (.int .i64 s0) (.slice iA iv.length ic) (.slice rA rv.length rc) pv f (.slice X k mR) ob (.slice (some ⟨gi,0,none⟩) vi.length vi.length) (.slice (some ⟨gq,0,none⟩) vq.length vq.length) M))∧Hid (OwnC wx base ob Sb)∧Hid (SecsO wx Sb)∧Hid (Sb.map nbS=S2.map nbS++(if hb0 then [(sInv++(⟨#[46]⟩++ss),((invS (idsOf xs) (dOwn xs).length).flatMap setB))] else []))∧Hid (Turn w5 wx (b :: o.ownBlock.toList))∧Hid (ob.ownBlock=o.ownBlock∨∃ g,ob.ownBlock=some g∧w5.heap.size≤g)∧Hid (Sb.length≤2003))
    case first =>
     cases hb0 with
     | true =>
       go_wp2_with (go_at_call 73;refine hold ?_);refine unhold ?_;refine (HL3K.out _ (HDAW.out _ HTH.out)).mono ?_;rintro e wl ⟨rfl,rfl⟩;have hof:=iof_any (some ⟨gI,0,none⟩) k (dOwn xs).length (idsOf xs) wh (HISW.out _ HTH.out) (by rw [HIDLK.out];exact hrl) hmany HILK.out (HTBW.out _ HTH.out);rw [HIDLK.out] at hof;have HOF:=lh hof;clear hof;go_wp2_with (go_at_call 77;refine hold ?_);refine unhold ?_;refine HOF.out.mono ?_;rintro e wp ⟨px,rfl,hix,hkp⟩;have HTP:=lh (HTH.out.keep_ hkp);have htb9:=HTBW.out _ HTP.out;have hil64:(idsOf xs).length≤64:=by rw [HIDLK.out];exact hrl
       have hby:=(invbytes_any hix (fun s hs=>setOk_up (mem_inv hil64 s hs) (by decide)) (by unfold invS;rw [List.length_map,List.length_range];exact hmany) htb9);have hbl:=(setsB_len _ 64 (fun s hs=>mem_inv hil64 s hs) (by unfold invS;rw [List.length_map,List.length_range];exact hmany));generalize hbx:((invS (idsOf xs) (dOwn xs).length).flatMap setB)=bx at hby hbl;have HBX:=lh hbx;have HBY:=lh hby;have HKP:=lh (HKH.out.trans hkp);clear hbx hby hix hkp htb9 hil64 HOF;clear hbf;have hbf:=(HR10.out.keep HKP.out).lt;go_wp2_with (go_at_call 78;refine hold ?_);refine unhold ?_;refine HBY.out.mono ?_;rintro e wy ⟨u,rfl,hob,hky⟩;obtain ⟨Au,cu,rfl,_⟩:=hob.sl b8_len (by omega);have HBU:=lh (hob.base_mono (Nat.zero_le _));have HKY:=lh (HKP.out.trans hky);have HTY:=lh (HTP.out.keep_ hky);clear hob hky HBY;go_wp2_with (go_at_call 30;refine hold ?_);refine unhold ?_;refine (put_secs b base S2 _ Au cu bx _ (HR10.out.keep HKY.out) (HO10.out.keep HKY.out) hb (Nat.le_trans hbase (Nat.le_trans HSZW.out HTY.out.size)) (by have:=HS2L.out;omega) (HS10.out.keep HKY.out) HBU.out).mono ?_;rintro e wz ⟨rfl,oz,hRz,hOz,hSz,hTz,hdz⟩;have HRz:=lh hRz;have HOz:=lh hOz;have HSz:=lh hSz;have HTz:=lh (show Turn w5 wz (b :: o.ownBlock.toList) from HTY.out.trans2 hTz fun i hi=>by
        rw [List.mem_cons,Option.mem_toList] at hi
        rcases hi with h|h
        ·exact .inl (by simp [h])
        ·rcases HD10.out with e | ⟨g,e,hg⟩
         ·rw [e] at h;exact .inl (by simp only [List.mem_cons,Option.mem_toList];exact .inr h)
         ·rw [e] at h;injection h with h;subst h;exact .inr hg)
       have HDz:=lh (show oz.ownBlock=o.ownBlock∨∃ g,oz.ownBlock=some g∧w5.heap.size≤g by
        rcases hdz with e | ⟨g,e,hg⟩
        ·rcases HD10.out with e8 | ⟨g,e8,hg⟩
         ·exact .inl (e.trans e8)
         ·exact .inr ⟨g,e.trans e8,hg⟩
        ·exact .inr ⟨g,e,Nat.le_trans HTY.out.size hg⟩)
       clear hRz hOz hSz hTz hdz hbl hbf;go_wp2_with fail;go_meet;exact ⟨oz,_,HRz.out,HOz.out,HSz.out,(by show List.map _ _=_;rw [List.map_append,HBX.out];rfl),HTz.out,HDz.out,(by show List.length _≤_;have:=HS2L.out;rw [List.length_append];simp;omega)⟩
     | false =>
       go_wp2_with fail;go_meet;exact ⟨o2,S2,HR10.out.keep HKH.out,HO10.out.keep HKH.out,HS10.out.keep HKH.out,(by show List.map _ _=_;simp),HTH.out,HD10.out,(by show List.length _≤_;have:=HS2L.out;omega)⟩
    case rest =>
    rename World=>w13;obtain ⟨o3,S3,HR3,HO3,HS3,HN3,HT3,HD3,HL3S⟩:=hcut;clear hbf HTH HKH;rw [← HHB.out] at HN3;clear HHB;have xf:=HR3.out.cell 3 _ rfl;have hbf:=HR3.out.lt;go_wp2_with (go_at_call 56;refine hold ?_);refine unhold ?_;refine (HRVW.out _ HT3.out).mono ?_;rintro e wh ⟨rfl,hkh⟩;have HTH:=lh (HT3.out.keep_ hkh);have HKH:=lh hkh;clear hkh xf hbf;have hbf:=(HR3.out.keep HKH.out).lt;generalize hhb:hasP rv (pl:Int)=hb0;have HHB:=lh hhb;clear hhb;go_upto_if 125 with fail;go_cut [16,17] from 126 to 138 (fun _ _ wx=>∃ ob Sb,Hid (Row wx b 77 (mkC (.slice (some ⟨bA,off,none⟩) cs.length n) (.int .i64 s0) (.slice iA iv.length ic) (.slice rA rv.length rc) pv f (.slice X k mR) ob (.slice (some ⟨gi,0,none⟩) vi.length vi.length) (.slice (some ⟨gq,0,none⟩) vq.length vq.length) M))∧Hid (OwnC wx base ob Sb)∧Hid (SecsO wx Sb)∧Hid (Sb.map nbS=S3.map nbS++(if hb0 then [(sRan++(⟨#[46]⟩++ss),((ranS (idsOf xs) (dOwn xs).length).flatMap setB))] else []))∧Hid (Turn w5 wx (b :: o.ownBlock.toList))∧Hid (ob.ownBlock=o.ownBlock∨∃ g,ob.ownBlock=some g∧w5.heap.size≤g)∧Hid (Sb.length≤2004))
    case first =>
     cases hb0 with
     | true =>
       go_wp2_with (go_at_call 73;refine hold ?_);refine unhold ?_;refine (HL3K.out _ (HDAW.out _ HTH.out)).mono ?_;rintro e wl ⟨rfl,rfl⟩;have hof:=nof_any (some ⟨gI,0,none⟩) k (dOwn xs).length (idsOf xs) wh (HISW.out _ HTH.out) (by rw [HIDLK.out];exact hrl) hmany HILK.out (HTBW.out _ HTH.out);rw [HIDLK.out] at hof;have HOF:=lh hof;clear hof;go_wp2_with (go_at_call 79;refine hold ?_);refine unhold ?_;refine HOF.out.mono ?_;rintro e wp ⟨px,rfl,hix,hkp⟩;have HTP:=lh (HTH.out.keep_ hkp);have htb9:=HTBW.out _ HTP.out;have hil64:(idsOf xs).length≤64:=by rw [HIDLK.out];exact hrl
       have hby:=(ranbytes_any hix (fun s hs=>setOk_up (mem_ran hil64 s hs) (by decide)) (by unfold ranS;rw [List.length_map,List.length_range];exact hmany) htb9);have hbl:=(setsB_len _ 193 (fun s hs=>mem_ran hil64 s hs) (by unfold ranS;rw [List.length_map,List.length_range];exact hmany));generalize hbx:((ranS (idsOf xs) (dOwn xs).length).flatMap setB)=bx at hby hbl;have HBX:=lh hbx;have HBY:=lh hby;have HKP:=lh (HKH.out.trans hkp);clear hbx hby hix hkp htb9 hil64 HOF;clear hbf;have hbf:=(HR3.out.keep HKP.out).lt;go_wp2_with (go_at_call 80;refine hold ?_);refine unhold ?_;refine HBY.out.mono ?_;rintro e wy ⟨u,rfl,hob,hky⟩;obtain ⟨Au,cu,rfl,_⟩:=hob.sl b8_len (by omega);have HBU:=lh (hob.base_mono (Nat.zero_le _));have HKY:=lh (HKP.out.trans hky);have HTY:=lh (HTP.out.keep_ hky);clear hob hky HBY;go_wp2_with (go_at_call 30;refine hold ?_);refine unhold ?_;refine (put_secs b base S3 _ Au cu bx _ (HR3.out.keep HKY.out) (HO3.out.keep HKY.out) hb (Nat.le_trans hbase (Nat.le_trans HSZW.out HTY.out.size)) (by have:=HL3S.out;omega) (HS3.out.keep HKY.out) HBU.out).mono ?_;rintro e wz ⟨rfl,oz,hRz,hOz,hSz,hTz,hdz⟩;have HRz:=lh hRz;have HOz:=lh hOz;have HSz:=lh hSz;have HTz:=lh (show Turn w5 wz (b :: o.ownBlock.toList) from HTY.out.trans2 hTz fun i hi=>by
        rw [List.mem_cons,Option.mem_toList] at hi
        rcases hi with h|h
        ·exact .inl (by simp [h])
        ·rcases HD3.out with e | ⟨g,e,hg⟩
         ·rw [e] at h;exact .inl (by simp only [List.mem_cons,Option.mem_toList];exact .inr h)
         ·rw [e] at h;injection h with h;subst h;exact .inr hg)
       have HDz:=lh (show oz.ownBlock=o.ownBlock∨∃ g,oz.ownBlock=some g∧w5.heap.size≤g by
        rcases hdz with e | ⟨g,e,hg⟩
        ·rcases HD3.out with e8 | ⟨g,e8,hg⟩
         ·exact .inl (e.trans e8)
         ·exact .inr ⟨g,e.trans e8,hg⟩
        ·exact .inr ⟨g,e,Nat.le_trans HTY.out.size hg⟩)
       clear hRz hOz hSz hTz hdz hbl hbf;go_wp2_with fail;go_meet;exact ⟨oz,_,HRz.out,HOz.out,HSz.out,(by show List.map _ _=_;rw [List.map_append,HBX.out];rfl),HTz.out,HDz.out,(by show List.length _≤_;have:=HL3S.out;rw [List.length_append];simp;omega)⟩
     | false =>
       go_wp2_with fail;go_meet;exact ⟨o3,S3,HR3.out.keep HKH.out,HO3.out.keep HKH.out,HS3.out.keep HKH.out,(by show List.map _ _=_;simp),HTH.out,HD3.out,(by show List.length _≤_;have:=HL3S.out;omega)⟩
    case rest =>
    rename World=>w14;obtain ⟨o4,S4,HR4,HO4,HS4,HN4,HT4,HD4,HL4S⟩:=hcut;clear hbf HTH HKH;rw [← HHB.out] at HN4;clear HHB;have xf:=HR4.out.cell 1 _ rfl;have hbf:=HR4.out.lt;have HTH:=HT4;have HKH:=lh (Keep.refl w14);go_upto_if 145 with fail;generalize hhb:(s0==(pl:Int))=hb0;have HHB:=lh hhb;clear hhb;go_cut [18,19] from 146 to 158 (fun _ _ wx=>∃ ob Sb,Hid (Row wx b 77 (mkC (.slice (some ⟨bA,off,none⟩) cs.length n) (.int .i64 s0) (.slice iA iv.length ic) (.slice rA rv.length rc) pv f (.slice X k mR) ob (.slice (some ⟨gi,0,none⟩) vi.length vi.length) (.slice (some ⟨gq,0,none⟩) vq.length vq.length) M))∧Hid (OwnC wx base ob Sb)∧Hid (SecsO wx Sb)∧Hid (Sb.map nbS=S4.map nbS++(if hb0 then [(sSrt++(⟨#[46]⟩++ss),(srtB (srtF (dOwn xs).length (idsOf xs))))] else []))∧Hid (Turn w5 wx (b :: o.ownBlock.toList))∧Hid (ob.ownBlock=o.ownBlock∨∃ g,ob.ownBlock=some g∧w5.heap.size≤g)∧Hid (Sb.length≤2005))
    case first =>
     cases hb0 with
     | true =>
       go_wp2_with (go_at_call 73;refine hold ?_);refine unhold ?_;refine (HL3K.out _ (HDAW.out _ HTH.out)).mono ?_;rintro e wl ⟨rfl,rfl⟩;have hof:=srtof_any (some ⟨gI,0,none⟩) k (dOwn xs).length (idsOf xs) w14 (HISW.out _ HTH.out) (by rw [HIDLK.out];omega) (by omega);rw [HIDLK.out] at hof;have HOF:=lh hof;clear hof;go_wp2_with (go_at_call 81;refine hold ?_);refine unhold ?_;refine HOF.out.mono ?_;rintro e wp ⟨px,er,rfl,hix,hkp⟩;have HTP:=lh (HTH.out.keep_ hkp);have htb9:=HTBW.out _ HTP.out;have hil64:(idsOf xs).length≤64:=by rw [HIDLK.out];exact hrl
       have hby:=(srtbytes_any wp hix (srtL_le _ _ (by rw [HIDLK.out];omega)));have hbl:=(srtB_le (dOwn xs).length (idsOf xs) (by rw [HIDLK.out];omega));generalize hbx:(srtB (srtF (dOwn xs).length (idsOf xs)))=bx at hby hbl;have HBX:=lh hbx;have HBY:=lh hby;have HKP:=lh (HKH.out.trans hkp);clear hbx hby hix hkp htb9 hil64 HOF;clear hbf xf;have hbf:=(HR4.out.keep HKP.out).lt;go_wp2_with (go_at_call 82;refine hold ?_);refine unhold ?_;refine HBY.out.mono ?_;rintro e wy ⟨u,rfl,hob,hky⟩;obtain ⟨Au,cu,rfl,_⟩:=hob.sl b8_len (by omega);have HBU:=lh (hob.base_mono (Nat.zero_le _));have HKY:=lh (HKP.out.trans hky);have HTY:=lh (HTP.out.keep_ hky);clear hob hky HBY;go_wp2_with (go_at_call 30;refine hold ?_);refine unhold ?_;refine (put_secs b base S4 _ Au cu bx _ (HR4.out.keep HKY.out) (HO4.out.keep HKY.out) hb (Nat.le_trans hbase (Nat.le_trans HSZW.out HTY.out.size)) (by have:=HL4S.out;omega) (HS4.out.keep HKY.out) HBU.out).mono ?_;rintro e wz ⟨rfl,oz,hRz,hOz,hSz,hTz,hdz⟩;have HRz:=lh hRz;have HOz:=lh hOz;have HSz:=lh hSz;have HTz:=lh (show Turn w5 wz (b :: o.ownBlock.toList) from HTY.out.trans2 hTz fun i hi=>by
        rw [List.mem_cons,Option.mem_toList] at hi
        rcases hi with h|h
        ·exact .inl (by simp [h])
        ·rcases HD4.out with e | ⟨g,e,hg⟩
         ·rw [e] at h;exact .inl (by simp only [List.mem_cons,Option.mem_toList];exact .inr h)
         ·rw [e] at h;injection h with h;subst h;exact .inr hg)
       have HDz:=lh (show oz.ownBlock=o.ownBlock∨∃ g,oz.ownBlock=some g∧w5.heap.size≤g by
        rcases hdz with e | ⟨g,e,hg⟩
        ·rcases HD4.out with e8 | ⟨g,e8,hg⟩
         ·exact .inl (e.trans e8)
         ·exact .inr ⟨g,e.trans e8,hg⟩
        ·exact .inr ⟨g,e,Nat.le_trans HTY.out.size hg⟩)
       clear hRz hOz hSz hTz hdz hbl hbf;go_wp2_with fail;go_meet;exact ⟨oz,_,HRz.out,HOz.out,HSz.out,(by show List.map _ _=_;rw [List.map_append,HBX.out];rfl),HTz.out,HDz.out,(by show List.length _≤_;have:=HL4S.out;rw [List.length_append];simp;omega)⟩
     | false =>
       go_wp2_with fail;go_meet;exact ⟨o4,S4,HR4.out.keep HKH.out,HO4.out.keep HKH.out,HS4.out.keep HKH.out,(by show List.map _ _=_;simp),HTH.out,HD4.out,(by show List.length _≤_;have:=HL4S.out;omega)⟩
    case rest =>
    rename World=>w15;obtain ⟨o5,S5,HR5,HO5,HS5,HN5,HT5,HD5,HL5S⟩:=hcut;clear xf hbf HTH HKH;rw [← HHB.out] at HN5;clear HHB;go_wp2;go_ret;refine ⟨rfl,o5,S5,.slice (some ⟨gI,0,none⟩) k k,HR5.out,HGIW.out _ HT5.out,⟨gI,k,rfl⟩,(HOIW.out _ HT5.out).base_mono HGIZ.out,HGQW.out _ HT5.out,HO5.out,HS5.out,?_,HTWW.out _ HT5.out⟩;rw [HN5.out,HN4.out,HN3.out,← HS2E.out];simp only [List.map_append,List.map_cons,List.map_nil,nbS,dimG,nameG];rw [HKE.out,HDBE.out,HWE.out,HFBE.out,HSS.out];simp only [List.append_assoc,sDict,sFwd,List.cons_append,List.nil_append]
end Go.Proofs.YtpkocnpamcchcaaGreatDoor
