/- Parts of the proof. -/
import Derived.Test.YtpkocnpamcchcaaGreatDoorK27
set_option maxRecDepth 100000
set_option maxHeartbeats 4000000
set_option linter.unusedSimpArgs false
set_option linter.unusedVariables false
set_option linter.unnecessarySimpa false
namespace Go.Proofs.YtpkocnpamcchcaaGreatDoor
open Go.RowKit Go.Zone Go.Shelf
attribute [local go_sem] zone stepZ fill lookFs goes goesUpon dropFs cell_gro frozen_gro size_gro lt_add drew_gro tape_gro keep_refl
attribute [local go_sem] lt_add2 lt_add3 lt_add4 lt_add5 lt_add6 lt_add7 lt_add8 lt_add9 lt_add10 lt_add11 lt_add12
theorem invlen_any{w:World}{S:List (Option Roa.Con)}{p:Value}(h:SetIx w 196 S p):Calls Tryz.prog 128 #[p] w fun e w'=>e=.returned (.int .i64 (S.length:Nat))∧Keep w w':=by
 cases h with
 | mk b v ps h ho hs =>
   obtain ⟨A,c,hv⟩:=own_form ho;have x0:=h.cell 0 _ rfl;have hb:=h.lt;have hl:=hs.1;generalize ps.length=n at hl hv;generalize S.length=m at hl ⊢;subst hl;subst hv;clear h ho hs;go_enter Tryz.func128,Tryz.ntmps128;go_wp2;exact bodyPost_ret (v:=.int .i64 (n:Nat)) (by simp [results,Tryz.results128,go_sem]) rfl ⟨rfl,(by repeat first|exact kp0|apply kp1|apply kp2|apply kp3|apply kp4)⟩
theorem invbytes_any{w:World}{S:List (Option Roa.Con)}{p:Value}(h:SetIx w 196 S p)(hS:∀ s∈S,Roa.SetOk s 2000)(hl:S.length≤1000)(htab:Tab w):Calls Tryz.prog 78 #[p] w fun e w'=>∃ u,e=.returned u∧OwnB w' w.heap.size u (S.flatMap setB)∧Keep w w':=by
 have HLN:=lh (invlen_any h);have HT:=lh htab;have HSK:=lh hS
 cases h with
 | mk b v ps h ho hs =>
   have HR:=lh h;have HS:=lh hs;have HOP:=lh ho;have HPL:=lh hs.1;generalize hL:S.length=L at hl HLN;have HLL:=lh hL;clear h hs ho hL htab hS;go_enter Tryz.func78,Tryz.ntmps78;go_wp2_with (go_at_call 128;refine hold ?_);refine unhold ?_;refine HLN.out.mono ?_;rintro e w1 ⟨rfl,hk1⟩;have HK1:=lh hk1;clear hk1;go_wp2;go_loopw [3,7] (fun vb vi wr=>∃ (k:Nat) (v:Value),k≤L∧vi=.int .i64 k∧v=vb∧Hid (OwnB wr w.heap.size v ((S.take k).flatMap setB))∧Hid (Keep w wr)) (fun _ vi _=>L-(intOf vi).toNat)
   case atStart=>exact ⟨0,.slice none 0 0,Nat.zero_le _,rfl,rfl,Own.nil_ _ _ _ _ _,HK1.out⟩
   case round =>
    clear HK1;obtain ⟨k,u,hk,rfl,rfl,HO,HK⟩:=hrel
    by_cases hlt:k<L
    ·have hlt2:k<S.length:=by rw [HLL.out];exact hlt
     have hlt3:k<ps.length:=by rw [HPL.out];exact hlt2
     have hok:=HSK.out S[k] (List.getElem_mem hlt2);have hset:=(HS.out.keep HK.out).2 k S[k] ps[k] (List.getElem?_eq_getElem hlt2) (List.getElem?_eq_getElem hlt3);obtain ⟨A,c,hv,hslp⟩:=own_sl1 (HOP.out.keep HK.out) pt_len (by rw [HPL.out,HLL.out];omega);have x0:=(HR.out.keep HK.out).cell 0 _ rfl;have hb:=(HR.out.keep HK.out).lt;obtain ⟨bA,off,hA,hcc⟩:=hslp.at_ k hlt3;have z0:wr.cell? ⟨bA,off+k,none⟩=some (.pointer (some ⟨ps[k],0,none⟩)):=by
      have:=hcc 0 _ rfl
      simpa using this
     have hbA:=block_lt_of_cell z0;have HTK:=lh (show (S.take (k+1)).flatMap setB=(S.take k).flatMap setB++setB S[k] by rw [List.take_succ_eq_append_getElem hlt2,List.flatMap_append];simp);have hfl:((S.take k).flatMap setB).length≤4016*k:=by
      have hall:∀ s∈S.take k,(setB s).length≤4016:=fun s hs=>Nat.le_trans (setB_len (HSK.out s (List.mem_of_mem_take hs))) (by omega);have:∀ l:List (Option Roa.Con),(∀ s∈l,(setB s).length≤4016)→(l.flatMap setB).length≤4016*l.length:=by
       intro l
       induction l with
       | nil=>intro _;simp
       | cons a l ih =>
         intro h;have h1:=h a (List.mem_cons_self ..);have h2:=ih fun s hs=>h s (List.mem_cons_of_mem _ hs);simp only [List.flatMap_cons,List.length_append,List.length_cons];omega
      refine Nat.le_trans (this _ hall) ?_;rw [List.length_take];omega
     have hWR:=setw_any hset (SFit.of hok (Nat.le_refl _)) (HT.out.keep HK.out);have hbl:=setB_len hok;generalize hsB:setB S[k]=sB at HTK hWR hbl;have HWR:=lh hWR;generalize ps[k]=pk at z0 HWR;subst hA;have hvl:ps.length=L:=by rw [HPL.out,HLL.out]
     rw [hvl] at hv;subst hv;clear hok hset hslp hcc hlt2 hlt3 hsB hWR hvl;go_wp2_with (go_at_call 129;refine hold ?_);refine unhold ?_;refine HWR.out.mono ?_;rintro e w2 ⟨v2,rfl,ho2,hk2⟩;obtain ⟨A2,c2,rfl,hs2⟩:=own_sl1 ho2 b8_len (by omega);have HO2:=lh (HO.out.keep hk2);have HK2:=lh (HK.out.trans hk2);have HS2:=lh hs2;clear ho2 hk2 hs2 HWR z0 x0 hb hbA;go_wp2_with (at_builtin;refine hold ?_);refine unhold ?_;refine wpList_app elt_u8 b8_len b8_one rfl (.tmp 10) (.tmp 18) rfl (ys:=sB) HO2.out rfl rfl HS2.out (by omega) HK2.out.size ?_;intro v3 w3 hown3 hg3 _;have HK3:=lh (show Keep w w3 from Own.kept HO2.out hg3 HK2.out (Nat.le_refl _));have HO3:=lh hown3;clear hown3 hg3;go_wp2;go_roundw
     case rel=>exact ⟨k+1,v3,by omega,by go_num,rfl,(by show OwnB _ _ _ _;rw [HTK.out];exact HO3.out),HK3.out⟩
     case measure=>simp [intOf];omega
    ·have hkn:k=L:=by omega
     subst hkn;rw [← HLL.out,List.take_length] at HO;go_wp2;exact bodyPost_ret (v:=u) (by simp [results,Tryz.results78,go_sem]) rfl ⟨_,rfl,HO.out,HK.out⟩
theorem ranlen_any{w:World}{S:List (Option Roa.Con)}{p:Value}(h:SetIx w 201 S p):Calls Tryz.prog 132 #[p] w fun e w'=>e=.returned (.int .i64 (S.length:Nat))∧Keep w w':=by
 cases h with
 | mk b v ps h ho hs =>
   obtain ⟨A,c,hv⟩:=own_form ho;have x0:=h.cell 0 _ rfl;have hb:=h.lt;have hl:=hs.1;generalize ps.length=n at hl hv;generalize S.length=m at hl ⊢;subst hl;subst hv;clear h ho hs;go_enter Tryz.func132,Tryz.ntmps132;go_wp2;exact bodyPost_ret (v:=.int .i64 (n:Nat)) (by simp [results,Tryz.results132,go_sem]) rfl ⟨rfl,(by repeat first|exact kp0|apply kp1|apply kp2|apply kp3|apply kp4)⟩
theorem ranbytes_any{w:World}{S:List (Option Roa.Con)}{p:Value}(h:SetIx w 201 S p)(hS:∀ s∈S,Roa.SetOk s 2000)(hl:S.length≤1000)(htab:Tab w):Calls Tryz.prog 80 #[p] w fun e w'=>∃ u,e=.returned u∧OwnB w' w.heap.size u (S.flatMap setB)∧Keep w w':=by
 have HLN:=lh (ranlen_any h);have HT:=lh htab;have HSK:=lh hS
 cases h with
 | mk b v ps h ho hs =>
   have HR:=lh h;have HS:=lh hs;have HOP:=lh ho;have HPL:=lh hs.1;generalize hL:S.length=L at hl HLN;have HLL:=lh hL;clear h hs ho hL htab hS;go_enter Tryz.func80,Tryz.ntmps80;go_wp2_with (go_at_call 132;refine hold ?_);refine unhold ?_;refine HLN.out.mono ?_;rintro e w1 ⟨rfl,hk1⟩;have HK1:=lh hk1;clear hk1;go_wp2;go_loopw [3,7] (fun vb vi wr=>∃ (k:Nat) (v:Value),k≤L∧vi=.int .i64 k∧v=vb∧Hid (OwnB wr w.heap.size v ((S.take k).flatMap setB))∧Hid (Keep w wr)) (fun _ vi _=>L-(intOf vi).toNat)
   case atStart=>exact ⟨0,.slice none 0 0,Nat.zero_le _,rfl,rfl,Own.nil_ _ _ _ _ _,HK1.out⟩
   case round =>
    clear HK1;obtain ⟨k,u,hk,rfl,rfl,HO,HK⟩:=hrel
    by_cases hlt:k<L
    ·have hlt2:k<S.length:=by rw [HLL.out];exact hlt
     have hlt3:k<ps.length:=by rw [HPL.out];exact hlt2
     have hok:=HSK.out S[k] (List.getElem_mem hlt2);have hset:=(HS.out.keep HK.out).2 k S[k] ps[k] (List.getElem?_eq_getElem hlt2) (List.getElem?_eq_getElem hlt3);obtain ⟨A,c,hv,hslp⟩:=own_sl1 (HOP.out.keep HK.out) pt_len (by rw [HPL.out,HLL.out];omega);have x0:=(HR.out.keep HK.out).cell 0 _ rfl;have hb:=(HR.out.keep HK.out).lt;obtain ⟨bA,off,hA,hcc⟩:=hslp.at_ k hlt3;have z0:wr.cell? ⟨bA,off+k,none⟩=some (.pointer (some ⟨ps[k],0,none⟩)):=by
      have:=hcc 0 _ rfl
      simpa using this
     have hbA:=block_lt_of_cell z0;have HTK:=lh (show (S.take (k+1)).flatMap setB=(S.take k).flatMap setB++setB S[k] by rw [List.take_succ_eq_append_getElem hlt2,List.flatMap_append];simp);have hfl:((S.take k).flatMap setB).length≤4016*k:=by
      have hall:∀ s∈S.take k,(setB s).length≤4016:=fun s hs=>Nat.le_trans (setB_len (HSK.out s (List.mem_of_mem_take hs))) (by omega);have:∀ l:List (Option Roa.Con),(∀ s∈l,(setB s).length≤4016)→(l.flatMap setB).length≤4016*l.length:=by
       intro l
       induction l with
       | nil=>intro _;simp
       | cons a l ih =>
         intro h;have h1:=h a (List.mem_cons_self ..);have h2:=ih fun s hs=>h s (List.mem_cons_of_mem _ hs);simp only [List.flatMap_cons,List.length_append,List.length_cons];omega
      refine Nat.le_trans (this _ hall) ?_;rw [List.length_take];omega
     have hWR:=setw_any hset (SFit.of hok (Nat.le_refl _)) (HT.out.keep HK.out);have hbl:=setB_len hok;generalize hsB:setB S[k]=sB at HTK hWR hbl;have HWR:=lh hWR;generalize ps[k]=pk at z0 HWR;subst hA;have hvl:ps.length=L:=by rw [HPL.out,HLL.out]
     rw [hvl] at hv;subst hv;clear hok hset hslp hcc hlt2 hlt3 hsB hWR hvl;go_wp2_with (go_at_call 129;refine hold ?_);refine unhold ?_;refine HWR.out.mono ?_;rintro e w2 ⟨v2,rfl,ho2,hk2⟩;obtain ⟨A2,c2,rfl,hs2⟩:=own_sl1 ho2 b8_len (by omega);have HO2:=lh (HO.out.keep hk2);have HK2:=lh (HK.out.trans hk2);have HS2:=lh hs2;clear ho2 hk2 hs2 HWR z0 x0 hb hbA;go_wp2_with (at_builtin;refine hold ?_);refine unhold ?_;refine wpList_app elt_u8 b8_len b8_one rfl (.tmp 10) (.tmp 18) rfl (ys:=sB) HO2.out rfl rfl HS2.out (by omega) HK2.out.size ?_;intro v3 w3 hown3 hg3 _;have HK3:=lh (show Keep w w3 from Own.kept HO2.out hg3 HK2.out (Nat.le_refl _));have HO3:=lh hown3;clear hown3 hg3;go_wp2;go_roundw
     case rel=>exact ⟨k+1,v3,by omega,by go_num,rfl,(by show OwnB _ _ _ _;rw [HTK.out];exact HO3.out),HK3.out⟩
     case measure=>simp [intOf];omega
    ·have hkn:k=L:=by omega
     subst hkn;rw [← HLL.out,List.take_length] at HO;go_wp2;exact bodyPost_ret (v:=u) (by simp [results,Tryz.results80,go_sem]) rfl ⟨_,rfl,HO.out,HK.out⟩
attribute [local go_sem] calm_normal
def invS(ids:List Nat)(many:Nat):List (Option Roa.Con):=(List.range many).map fun i=>Roa.ofR TB (rowsTo ids ids.length i)
theorem iof_any(A:Option Addr)(c many:Nat)(ids:List Nat)(w:World)(h:Sl w 1 n64V A c ids)(hl:ids.length≤64)(hm:many≤1000)(hb:∀ x∈ids,x<many)(htab:Tab w) :
 Calls Tryz.prog 77 #[.slice A ids.length c,.int .i64 many] w fun e w'=>∃ p,e=.returned (.tuple #[p,.int .i64 0])∧SetIx w' 196 (invS ids many) p∧Keep w w':=by
 have H:=lh h;have HT:=lh htab;have HIB:=lh hb;obtain ⟨n,hn⟩:∃ n,ids.length=n:=⟨_,rfl⟩;rw [hn] at hl ⊢;have HN:=lh hn;have hd1:decide ((16777216:Int)<(n:Int))=false:=by simp;omega
 have hd2:decide ((16777216:Int)<(many:Int))=false:=by simp;omega
 obtain ⟨i0,hi0,i1,i2,i3⟩:=info_partsV (show (Tryz.prog.info? 193).map (fun i=>(i.zero,i.size,i.bytes))=some (some (.slice none 0 0),1,24) by kernel_rfl);obtain ⟨wm,hmk,hrow,hkm⟩:=row_made1 (P:=Tryz.prog) (t:=192) Tryz.underlying192 hi0 i1 i2 rfl many w (by rw [i3];omega) (by omega);have HK0:=lh hkm;have HB0:=lh (show BagV wm wm.heap.size w.heap.size (rowsTo ids 0) (List.replicate many (.slice none 0 0)) from (bag_nil hrow).congr (fun i=>rfl));have HLE:=lh (show w.heap.size≤wm.heap.size from hkm.size);clear h htab hb hn i1 i2 i3 hi0 i0 hrow hkm;go_enter Tryz.func77,Tryz.ntmps77;generalize hg:w.heap.size=g at hmk HB0 HLE;generalize hlo:wm.heap.size=lo at HB0 HLE;have HGE:=lh hg;have HLO:=lh hlo;have HBL:=lh (show (List.replicate many (Value.slice none 0 0)).length=many from List.length_replicate ..);generalize List.replicate many (Value.slice none 0 0)=vs0 at HB0 HBL;clear hg hlo;go_wp2;go_loopw [26] (fun vi wr=>∃ (k:Nat) (vs:List Value),k≤n∧vi=.int .i64 k∧Hid (vs.length=many)∧Hid (BagV wr lo g (rowsTo ids k) vs)∧Hid (lo≤wr.heap.size)∧Hid (Keep w wr)) (fun vi _=>n-(intOf vi).toNat)
 case atStart=>exact ⟨0,vs0,Nat.zero_le _,rfl,HBL.out,HB0.out,Nat.le_of_eq HLO.out.symm,HK0.out⟩
 case round =>
  clear HB0 HK0 HBL;obtain ⟨k,vs,hk,rfl,HVL,HB,HLS,HK⟩:=hrel
  by_cases hlt:k<n
  ·have hlt2:k<ids.length:=by rw [HN.out];exact hlt
   obtain ⟨bA,off,hA,hbA,h0⟩:=sl_n64 (H.out.keep HK.out) k hlt2;have HST:=lh (show ∀ i,rowsTo ids (k+1) i=if i=ids[k] then rowsTo ids k ids[k]++[k] else rowsTo ids k i from fun i=>by
    rw [rowsTo_succ];have e:ids.getD k 0=ids[k]:=by simp [hlt2]
    rw [e]
    by_cases hi:i=ids[k]
    ·subst hi;rw [if_pos rfl]
    ·rw [if_neg (fun e=>hi e.symm),if_neg hi])
   have hid:=HIB.out ids[k] (List.getElem_mem _);subst hA;generalize ids[k]=id at h0 HST hid;have hidv:id<vs.length:=by rw [HVL.out];exact hid
   obtain ⟨u,hu⟩:∃ u,vs[id]? =some u:=⟨_,List.getElem?_eq_getElem hidv⟩;have HU:=lh hu;have ho:=HB.out.own id u hu;have hlen:=rowsTo_len ids k id;obtain ⟨Av,cv,hv⟩:=own_form ho;have x0:=HB.out.row.cell id u hu;have hb:=HB.out.row.lt;have HOU:=lh ho;generalize hL:(rowsTo ids k id).length=L at hlen hv;have HLL:=lh hL;clear hL ho hu hidv;subst hv;have e3:decide ((many:Int)≤(id:Int))=false:=by simp;omega
   have e4:IntKind.u32.wrap (k:Int)=(k:Int):=by simp [IntKind.wrap,IntKind.signed,IntKind.bits];omega
   go_wp2_with (at_builtin;refine hold ?_);refine unhold ?_;have HB3:=HB.out.keep (Keep.alloc (Keep.refl wr) (.cells #[.int .u32 (k:Int)] 81));have HO3:OwnU32 (wr.alloc (.cells #[.int .u32 (k:Int)] 81)) lo (.slice Av L cv) (rowsTo ids k id):=HOU.out.keep (Keep.alloc (Keep.refl _) _);refine wpList_app elt_u32 u32_len u32_one rfl (.tmp 43) (.tmp 46) rfl (ys:=[k]) HO3 rfl rfl (sl_one _ (by omega) (by omega) (fun j u hu=>by match j,hu with|0,hu=>cases hu;simp [go_sem])) (by have:=HLL.out;simp;omega) (by have:=HLS.out;simp;omega) ?_;intro v1 w2 hown2 hg2 hbk;obtain ⟨A1,c1,rfl⟩:=own_form hown2;obtain ⟨hb4,hr4⟩:=HB3.app HU.out hown2 hg2 hbk;have HKA:=lh (show Keep w w2 from Own.kept HO3 hg2 ((HK.out).alloc _) (by rw [HGE.out];exact HLE.out));have HLS2:=lh (show lo≤w2.heap.size from Nat.le_trans HLS.out (Nat.le_trans (by simp) hg2.size));generalize (rowsTo ids k id++[k]).length=L1 at hown2 hb4;have HB4:=lh (hb4.congr (fun i=>(HST.out i).symm));have HVL4:=lh (show (vs.set id (.slice A1 L1 c1)).length=many by rw [List.length_set];exact HVL.out);have y0:=hr4.cell id _ HU.out;have hb2:=hr4.lt;have p0:=hr4.soft id;clear hown2 hg2 HO3 HB3 hr4 hb4 hbk x0 hb HB HK HST HU HOU;go_wp2;go_roundw
   case rel=>exact ⟨k+1,_,by omega,by go_num,HVL4.out,HB4.out,lh (by simpa using HLS2.out),HKA.out.setCell (Nat.le_of_eq HGE.out) _⟩
   case measure=>simp [intOf];omega
  ·have hkn:k=n:=by omega
   subst hkn;obtain ⟨ws,hws⟩:∃ ws,ws=wr:=⟨_,rfl⟩;subst hws;go_wp2;have hRB:Row (ws.alloc (.cells #[.slice none 0 0] 196)) ws.heap.size 196 [.slice none 0 0]:=row_alloc _ _ _;have hKB:Keep ws (ws.alloc (.cells #[.slice none 0 0] 196)):=Keep.alloc (Keep.refl _) _;generalize hW:ws.alloc (.cells #[.slice none 0 0] 196)=wb at hRB hKB ⊢;clear hW;generalize hb:ws.heap.size=b at hRB ⊢;have HBE:=lh hb;have HRB:=lh hRB;have HKB:=lh hKB;clear hRB hKB hb;go_loopw [53] (fun vi wr=>∃ (j:Nat) (v:Value) (ps:List Nat),j≤many∧vi=.int .i64 j∧Hid (Row wr b 196 [v])∧Hid (OwnPt wr b v ps)∧Hid (Sets wr ((invS ids many).take j) ps)∧Hid (Keep ws wr)) (fun vi _=>many-(intOf vi).toNat)
   case atStart=>exact ⟨0,.slice none 0 0,[],Nat.zero_le _,rfl,HRB.out,Own.nil_ _ _ _ _ _,⟨rfl,fun i s a h=>(by simp at h)⟩,HKB.out⟩
   case round =>
    clear HRB HKB;obtain ⟨j,v,ps,hj,rfl,HR,HO,HS,HKR⟩:=hrel;obtain ⟨Av,cv,hv⟩:=own_form HO.out;have hpl:ps.length=j:=by rw [HS.out.1,List.length_take];simp [invS];omega
    by_cases hjlt:j<many
    ·obtain ⟨u,hu⟩:∃ u,vs[j]? =some u:=⟨_,List.getElem?_eq_getElem (by rw [HVL.out];exact hjlt)⟩;have HBR:=lh (HB.out.keep HKR.out);have ho:=HBR.out.own j u hu;have hlen:=rowsTo_len ids k j;obtain ⟨Au,cu,hu2,hsl⟩:=own_sl1 ho u32_len (by omega);have z0:=HBR.out.row.cell j u hu;have hgs:=HBR.out.row.lt;have HSO:=lh (fun W (hW:Keep wr W)=>setof_any Au cu (rowsTo ids k j) W (hsl.keep hW) (rowsTo_inc ids k j) (fun x hx=>Nat.lt_of_lt_of_le (rowsTo_lt x hx) hl) (by omega) (HT.out.keep ((HK.out.trans HKR.out).trans hW)));generalize hL:(rowsTo ids k j).length=L at hlen hu2 HSO;have HSJ:=lh (show (invS ids many).take (j+1)=(invS ids many).take j++[Roa.ofR TB (rowsTo ids k j)] by
      rw [List.take_add_one,show (invS ids many)[j]? =some (Roa.ofR TB (rowsTo ids k j)) by unfold invS;rw [List.getElem?_map,List.getElem?_range hjlt,HN.out];rfl];rfl)
     generalize Roa.ofR TB (rowsTo ids k j)=sj at HSO HSJ;clear hL ho hsl hu;subst hu2;subst hv;have x0:=HR.out.cell 0 _ rfl;have hbs:=HR.out.lt;have HPL:=lh hpl;generalize hP:ps.length=P at HPL x0 HR HO ⊢;have HPP:=lh hP;clear hpl hP;have e1:((j:Int)<(many:Int)):=by omega
     obtain ⟨wq,hwq⟩:∃ wq,wq=wr:=⟨_,rfl⟩;subst hwq;go_wp2
     first|refine Zone.wp_region_m_gro 1 11 (by kernel_rfl) (by kernel_rfl) ?_|refine Zone.wp_region_m 1 11 (by kernel_rfl) (by kernel_rfl) ?_
     simp only [List.take_succ_cons,List.take_zero,List.drop_succ_cons,List.drop_zero]
     repeat (refine Zone.wpI_step _ (by rfl) (fun _=>by rfl) ?_)
     refine Zone.wpI_nil ?_
     repeat
      refine Zone.wpZ_step (fun K hK=>?_);go_simp
      first
      | (refine hK _ _ ?_;clear hK K)
      | (apply Exists.intro
         refine ⟨fun p=>?_,hK _ _ ?_⟩
         (fail)
         clear hK K)
     refine Zone.wpZ_free 65 (fun u W=>∃ a,u=.pointer (some ⟨a,0,none⟩)∧SetAt W sj u) rfl (fun _ W W' hk ⟨a,h1,h2⟩=>⟨a,h1,h2.keep hk⟩) ?_ ?_
     ·intro p;rw [Zone.lookFs_nil (by rfl)];simp only [Zone.fill];go_simp;go_at_call 127;refine (HSO.out _ (by repeat first|exact kp0|apply kp1|apply kp2|apply kp3|apply kp4)).mono ?_;rintro e w5 ⟨u,rfl,hs5,hk5⟩;obtain ⟨a,rfl⟩:=set_ptr hs5;exact ⟨_,rfl,⟨⟨a,rfl⟩,hs5⟩,hk5⟩
     refine Zone.wpZ_free 66 (fun u W=>∃ (q a:Nat),u=.slice (some ⟨q,0,none⟩) 1 1∧Sl W 1 ptV (some ⟨q,0,none⟩) 1 [a]∧SetAt W sj (.pointer (some ⟨a,0,none⟩))) rfl (fun _ W W' hk ⟨q,a,h1,h2,h3⟩=>⟨q,a,h1,h2.keep hk,h3.keep hk⟩) ?_ ?_
     ·refine step_free1' (d:=65) (by rfl) (fun p v hv=>?_);obtain ⟨a,rfl,hs5⟩:=hv;rw [if_pos (by rfl)];unfold Zone.goes;go_simp;exact ⟨⟨a,sl_one _ (by decide) (by decide) (fun j q hq=>by match j,hq with|0,hq=>cases hq;simp [go_sem]),hs5.keep (Keep.alloc (Keep.refl _) _)⟩,Keep.alloc (Keep.refl _) _⟩
     refine Zone.wpZ_nil ?_;intro p;simp only [Zone.fill];rintro v66 ⟨q6,a6,rfl,hs6,hset6⟩ v65 _;have hk3:Keep wq (wq.gro p):=(by repeat first|exact kp0|apply kp1|apply kp2|apply kp3|apply kp4);generalize wq.gro p=w3 at hk3 hs6 hset6 ⊢;have HR3:=HR.out.keep hk3;have HO3:=HO.out.keep hk3;have HS3:=(HS.out.keep hk3).snoc hset6;rw [← HSJ.out] at HS3;have HK3:=HKR.out.trans hk3;clear hk3 hset6 HR HO HS HKR x0 hbs z0 hgs;go_simp;refine wpList_app elt_set pt_len pt_one rfl (.tmp 60) (.tmp 66) rfl (ys:=[a6]) HO3 rfl rfl hs6 (by have:=HPL.out;have:=HPP.out;simp;omega) (Nat.le_of_lt HR3.lt) ?_;intro v1 w9 hown9 hg9 hbk9;obtain ⟨A1,c1,rfl⟩:=own_form hown9;generalize hL9:(ps++[a6]).length=L1 at hown9;have hr9:Row w9 b 196 [.slice Av P cv]:=row_grown HR3 hg9 (own_row_ne HO3 HR3 (by decide));have HNE:=lh (own_row_ne hown9 hr9 (by decide));have HK9:=lh (show Keep ws w9 from Own.kept HO3 hg9 HK3 (Nat.le_of_eq HBE.out));have HS9:=lh (HS3.off (offS_own HO3 (by decide) (by decide) (by decide) (by decide) (by decide)) (Turn.of_grown hg9));have HO9:=lh hown9;have HR9:=lh hr9;have x0:=hr9.cell 0 _ rfl;have hbs:=hr9.lt;have q0:=hr9.soft 0;clear hown9 hg9 hr9 HO3 HR3 HS3 HK3 hbk9 hL9 hs6;go_simp;go_wp2
     (try rw [Zone.calm_normal])
     go_wp2;go_roundw
     case rel=>exact ⟨j+1,_,_,by omega,by go_num,HR9.out.set 0 _,Zone.Own.turn HO9.out (Turn.set w9 ⟨b,0,none⟩ (.slice A1 L1 c1)) (fun i hi=>by simp only [List.mem_singleton] at hi;subst hi;exact HNE.out),HS9.out.off (offS_row HR9.out (by decide) (by decide) (by decide) (by decide) (by decide)) (Turn.set w9 ⟨b,0,none⟩ (.slice A1 L1 c1)),HK9.out.setCell (Nat.le_of_eq HBE.out) _⟩
     case measure=>simp [intOf];omega
    ·have hjm:j=many:=by omega
     subst hjm;have HSA:=lh (show (invS ids j).take j=invS ids j from List.take_of_length_le (by simp [invS]));go_wp2;exact bodyPost_ret (v:=.tuple #[.pointer (some ⟨b,0,none⟩),.int .i64 0]) (by simp [results,Tryz.results77,go_sem]) rfl ⟨_,rfl,.mk b v ps HR.out (HO.out.base_mono (Nat.zero_le _)) (by have:=HS.out;rwa [HSA.out] at this),HK.out.trans HKR.out⟩
end Go.Proofs.YtpkocnpamcchcaaGreatDoor
namespace Go.Proofs.YtpkocnpamcchcaaGreatDoor
open Go.RowKit Go.Zone Go.Shelf
attribute [local go_sem] zone stepZ fill lookFs goes goesUpon dropFs cell_gro frozen_gro size_gro lt_add drew_gro tape_gro keep_refl
attribute [local go_sem] lt_add2 lt_add3 lt_add4 lt_add5 lt_add6 lt_add7 lt_add8 lt_add9 lt_add10 lt_add11 lt_add12
def lenV:Value→Nat
 | .slice _ n _=>n
 | _=>0
theorem Sl.tail{α:Type}{w:World}{b off c k:Nat}{enc:α→List Value}{x:α}{xs:List α}(h:Sl w k enc (some ⟨b,off,none⟩) c (x :: xs)):Sl w k enc (some ⟨b,off+k,none⟩) (c-1) xs:=by
 have h1:=h.cap;have h2:=h.len;have h3:=h.big;simp only [List.length_cons] at h1 h2;refine ⟨by omega,by omega,by omega,fun i hi=>?_⟩;obtain ⟨b',off',hA,hc⟩:=h.at_ (i+1) (by simp;omega);injection hA with hA;injection hA with e1 e2;subst e1;subst e2;refine ⟨b,off+k,rfl,fun j u hu=>?_⟩;have:=hc j u (by simpa using hu)
 rwa [show off+k+i*k+j=off+(i+1)*k+j by rw [Nat.add_mul];omega]
theorem size_u16:∀ W:World,(sizeOf (Tryz.prog.elem 230)).run Tryz.prog W=.ok 1 W:=fun W=>by
 obtain ⟨i,hi,h1,h2,h3⟩:=info_partsV (show (Tryz.prog.info? (Tryz.prog.elem 230)).map (fun i=>(i.zero,i.size,i.bytes))=some (some (.int .u16 0),1,2) by kernel_rfl);simp [sizeOf,typeInfo,hi,h2]
theorem slice1{w:World}{b off c n m:Nat}{x:Nat}{r:List Nat}(h:Sl w 1 u16V (some ⟨b,off,none⟩) c (x :: r))(hn:n=r.length+1)(hm:m=r.length) :
 ∃ A2,(∀ W,(Instr.sliceAt 230 (.slice (some ⟨b,off,none⟩) n c) (some (.int .i64 1)) none none).run Tryz.prog W=.ok (.slice A2 m (c-1)) W)∧Sl w 1 u16V A2 (c-1) r:=by
 have hc:=h.cap;have h3:=h.big;simp only [List.length_cons] at hc;subst hm
 by_cases h1:c=1
 ·have hr:r=[]:=List.eq_nil_of_length_eq_zero (by omega);subst hr;refine ⟨some ⟨b,off,none⟩,fun W=>?_,Sl.nil_ _ (by omega)⟩;rw [run_sliceAt_slice W _ _ _ _ _ (by kernel_rfl),run_slice_l W _ _ _ _ (by kernel_rfl) .i64 1 (by decide) (by simp at hn;omega),size_u16 W];simp only [Result.andThen_ok,sliced];subst hn h1;rfl
 ·refine ⟨some ⟨b,off+1,none⟩,fun W=>?_,Sl.tail h⟩;rw [run_sliceAt_slice W _ _ _ _ _ (by kernel_rfl),run_slice_l W _ _ _ _ (by kernel_rfl) .i64 1 (by decide) (by omega),size_u16 W];simp only [Result.andThen_ok,sliced];rw [if_neg (by simpa using h1)];subst hn;rfl
theorem aor1_any(x y:Bool)(w:World):Calls Tryz.prog 258 #[.bool x,.bool y] w fun e w'=>e=.returned (.bool true)∧Keep w w':=by
 go_enter Tryz.func258,Tryz.ntmps258;go_wp2;go_ret;exact ⟨rfl,(by repeat first|exact kp0|apply kp1|apply kp2|apply kp3|apply kp4)⟩
theorem amerge_any(A B:Option Addr)(c d:Nat)(a b:List Nat)(w:World)(h:Sl w 1 u16V A c a)(h2:Sl w 1 u16V B d b)(hl:a.length≤10000)(hl2:b.length≤10000) :
 Calls Tryz.prog 257 #[.slice A a.length c,.slice B b.length d,.func (.func 258) #[] #[]] w fun e w'=>∃ v,e=.returned v∧OwnU16 w' w.heap.size v (Roa.orA a b)∧Keep w w':=by
 have H:=lh h;have H2:=lh h2;have HL:=lh hl;have HL2:=lh hl2;clear h h2 hl hl2;obtain ⟨va,hva⟩:∃ va,va=Value.slice A a.length c:=⟨_,rfl⟩;obtain ⟨vb,hvb⟩:∃ vb,vb=Value.slice B b.length d:=⟨_,rfl⟩;have HVA:=lh hva;have HVB:=lh hvb;rw [← hva,← hvb];clear hva hvb;go_enter Tryz.func257,Tryz.ntmps257;go_wp2;go_loopw [0,1,7] (fun va vb vo wr=>∃ (A' B':Option Addr) (c' d':Nat) (a' b' pre:List Nat) (v:Value),va=.slice A' a'.length c'∧vb=.slice B' b'.length d'∧v=vo∧Hid (Sl w 1 u16V A' c' a')∧Hid (Sl w 1 u16V B' d' b')∧Hid (OwnU16 wr w.heap.size v pre)∧Hid (pre++Roa.orA a' b'=Roa.orA a b)∧Hid (pre.length+a'.length+b'.length≤20000)∧Hid (Keep w wr)) (fun va vb _ _=>lenV va+lenV vb)
 case atStart=>exact ⟨A,B,c,d,a,b,[],.slice none 0 0,HVA.out,HVB.out,rfl,H.out,H2.out,Own.nil_ _ _ _ _ _,rfl,(by show 0+a.length+b.length≤20000;have:=HL.out;have:=HL2.out;omega),Keep.refl _⟩
 case round =>
  clear H H2 HL HL2 HVA HVB;obtain ⟨A',B',c',d',a',b',pre,v,rfl,rfl,rfl,HA,HB,HO,HE,HLE,HK⟩:=hrel;obtain ⟨Av,cv,hv⟩:=own_form HO.out;generalize hPL:pre.length=P at hv;have HPL:=lh hPL;clear hPL;subst hv
  cases a' with
  | nil =>
    cases b' with
    | nil =>
      have HEQ:=lh (show pre=Roa.orA a b by have:=HE.out;rw [Roa.orA_nil,List.append_nil] at this;exact this);simp only [List.length_nil];go_wp2;exact bodyPost_ret (v:=.slice Av P cv) (by simp [results,Tryz.results257,go_sem]) rfl ⟨_,rfl,by rw [← HEQ.out];exact HO.out,HK.out⟩
    | cons y s =>
      obtain ⟨bB,oB,hB,hbB,z0⟩:=sl_u16 (HB.out.keep HK.out) 0 (by simp);subst hB;have hcb:=HB.out.cap;simp only [List.getElem_cons_zero,Nat.add_zero] at z0;have hm:(y :: s).length=s.length+1:=rfl;generalize (y :: s).length=m at hm hcb ⊢;have HM:=lh hm;have m1:((m:Int)==0)=false:=by simp;omega
      have m2:decide (0<m)=true:=by simp;omega
      have m3:0<m:=by omega
      have m4:(1:Int)≤(m:Int):=by omega
      have m5:(m:Int)≤(d':Int):=by omega
      obtain ⟨B2,hsB,hB2⟩:=slice1 HB.out hm rfl;generalize hsl:s.length=sl at hsB;have HSL:=lh hsl;have HB2:=lh hB2;clear hm hB2 hsl;simp only [List.length_nil];go_wp2;go_quiet (fail);go_wp2;go_quiet (fail);go_wp2;go_quiet (fail);go_wp2_with (go_at_call 258;refine hold ?_);refine unhold ?_;refine (aor1_any _ _ _).mono ?_;rintro e w5 ⟨rfl,hk5⟩;have HK5:=lh (show Keep wr w5 from Keep.trans (by repeat first|exact kp0|apply kp1|apply kp2|apply kp3|apply kp4) hk5);clear hk5;go_wp2_with (at_builtin;refine hold ?_);refine unhold ?_;have HO3:OwnU16 (w5.alloc (.cells #[.int .u16 (y:Int)] 126)) w.heap.size (.slice Av P cv) pre:=HO.out.keep (HK5.out.trans (Keep.alloc (Keep.refl _) _));refine wpList_app elt_u16 u16_len u16_one rfl (.tmp 69) (.tmp 71) rfl (ys:=[y]) HO3 rfl rfl (sl_one _ (by omega) (by omega) (fun j u hu=>by match j,hu with|0,hu=>cases hu;simp [go_sem])) (by have:=HLE.out;simp;omega) (by have:=(HK.out.trans HK5.out).size;simp;omega) ?_;intro v1 w9 hown9 hg9 _;have HK9:=lh (show Keep w w9 from HO3.kept hg9 ((HK.out.trans HK5.out).alloc _) (Nat.le_refl _));have HO9:=lh hown9;clear hown9 hg9 HO3;go_wp2;go_roundw
      case rel=>exact ⟨_,_,_,_,[],s,pre++[y],v1,rfl,(by rw [HSL.out]),rfl,(by exact Sl.nil_ _ HA.out.big),HB2.out,HO9.out,(by show pre++[y]++_=_;have:=HE.out;rw [Roa.orA_right] at this;rw [← this,List.append_assoc];rfl),(by show _≤_;have:=HLE.out;simp at this ⊢;omega),HK9.out⟩
      case measure=>simp [lenV];have:=HM.out;have:=HSL.out;omega
  | cons x r =>
    cases b' with
    | nil =>
      obtain ⟨bA,oA,hA,hbA,h0⟩:=sl_u16 (HA.out.keep HK.out) 0 (by simp);subst hA;have hca:=HA.out.cap;simp only [List.getElem_cons_zero,Nat.add_zero] at h0;have hn:(x :: r).length=r.length+1:=rfl;generalize (x :: r).length=n at hn hca ⊢;have HN:=lh hn;have n1:((n:Int)==0)=false:=by simp;omega
      have n2:decide (0<n)=true:=by simp;omega
      have n3:0<n:=by omega
      have n4:(1:Int)≤(n:Int):=by omega
      have n5:(n:Int)≤(c':Int):=by omega
      obtain ⟨A2,hsA,hA2⟩:=slice1 HA.out hn rfl;generalize hrl:r.length=rl at hsA;have HRL:=lh hrl;have HA2:=lh hA2;clear hn hA2 hrl;simp only [List.length_nil];go_wp2;go_quiet (fail);go_wp2;go_quiet (fail);go_wp2;go_quiet (fail);go_wp2_with (go_at_call 258;refine hold ?_);refine unhold ?_;refine (aor1_any _ _ _).mono ?_;rintro e w5 ⟨rfl,hk5⟩;have HK5:=lh (show Keep wr w5 from Keep.trans (by repeat first|exact kp0|apply kp1|apply kp2|apply kp3|apply kp4) hk5);clear hk5;go_wp2_with (at_builtin;refine hold ?_);refine unhold ?_;have HO3:OwnU16 (w5.alloc (.cells #[.int .u16 (x:Int)] 126)) w.heap.size (.slice Av P cv) pre:=HO.out.keep (HK5.out.trans (Keep.alloc (Keep.refl _) _));refine wpList_app elt_u16 u16_len u16_one rfl (.tmp 69) (.tmp 71) rfl (ys:=[x]) HO3 rfl rfl (sl_one _ (by omega) (by omega) (fun j u hu=>by match j,hu with|0,hu=>cases hu;simp [go_sem])) (by have:=HLE.out;simp;omega) (by have:=(HK.out.trans HK5.out).size;simp;omega) ?_;intro v1 w9 hown9 hg9 _;have HK9:=lh (show Keep w w9 from HO3.kept hg9 ((HK.out.trans HK5.out).alloc _) (Nat.le_refl _));have HO9:=lh hown9;clear hown9 hg9 HO3;go_wp2;go_roundw
      case rel=>exact ⟨_,_,_,_,r,[],pre++[x],v1,(by rw [HRL.out]),rfl,rfl,HA2.out,(by exact Sl.nil_ _ HB.out.big),HO9.out,(by show pre++[x]++_=_;have:=HE.out;rw [Roa.orA_left] at this;rw [← this,List.append_assoc];rfl),(by show _≤_;have:=HLE.out;simp at this ⊢;omega),HK9.out⟩
      case measure=>simp [lenV];have:=HN.out;have:=HRL.out;omega
    | cons y s =>
      obtain ⟨bA,oA,hA,hbA,h0⟩:=sl_u16 (HA.out.keep HK.out) 0 (by simp);subst hA;have hca:=HA.out.cap;simp only [List.getElem_cons_zero,Nat.add_zero] at h0;have hn:(x :: r).length=r.length+1:=rfl;generalize (x :: r).length=n at hn hca ⊢;have HN:=lh hn;have n1:((n:Int)==0)=false:=by simp;omega
      have n2:decide (0<n)=true:=by simp;omega
      have n3:0<n:=by omega
      have n4:(1:Int)≤(n:Int):=by omega
      have n5:(n:Int)≤(c':Int):=by omega
      obtain ⟨A2,hsA,hA2⟩:=slice1 HA.out hn rfl;generalize hrl:r.length=rl at hsA;have HRL:=lh hrl;have HA2:=lh hA2;clear hn hA2 hrl;obtain ⟨bB,oB,hB,hbB,z0⟩:=sl_u16 (HB.out.keep HK.out) 0 (by simp);subst hB;have hcb:=HB.out.cap;simp only [List.getElem_cons_zero,Nat.add_zero] at z0;have hm:(y :: s).length=s.length+1:=rfl;generalize (y :: s).length=m at hm hcb ⊢;have HM:=lh hm;have m1:((m:Int)==0)=false:=by simp;omega
      have m2:decide (0<m)=true:=by simp;omega
      have m3:0<m:=by omega
      have m4:(1:Int)≤(m:Int):=by omega
      have m5:(m:Int)≤(d':Int):=by omega
      obtain ⟨B2,hsB,hB2⟩:=slice1 HB.out hm rfl;generalize hsl:s.length=sl at hsB;have HSL:=lh hsl;have HB2:=lh hB2;clear hm hB2 hsl
      by_cases hxy:x<y
      ·have d1:decide (x≤y)=true:=by simp;omega
       have d2:decide (y≤x)=false:=by simp;omega
       have HEQ:=lh (show pre++[x]++Roa.orA r (y :: s)=Roa.orA a b by have:=HE.out;rw [Roa.orA_lt _ _ _ _ hxy] at this;rw [← this,List.append_assoc];rfl);clear hxy;go_wp2;go_quiet (fail);go_wp2;go_quiet (fail);go_wp2;go_quiet (fail);go_wp2_with (go_at_call 258;refine hold ?_);refine unhold ?_;refine (aor1_any _ _ _).mono ?_;rintro e w5 ⟨rfl,hk5⟩;have HK5:=lh (show Keep wr w5 from Keep.trans (by repeat first|exact kp0|apply kp1|apply kp2|apply kp3|apply kp4) hk5);clear hk5;go_wp2_with (at_builtin;refine hold ?_);refine unhold ?_;have HO3:OwnU16 (w5.alloc (.cells #[.int .u16 (x:Int)] 126)) w.heap.size (.slice Av P cv) pre:=HO.out.keep (HK5.out.trans (Keep.alloc (Keep.refl _) _));refine wpList_app elt_u16 u16_len u16_one rfl (.tmp 69) (.tmp 71) rfl (ys:=[x]) HO3 rfl rfl (sl_one _ (by omega) (by omega) (fun j u hu=>by match j,hu with|0,hu=>cases hu;simp [go_sem])) (by have:=HLE.out;simp;omega) (by have:=(HK.out.trans HK5.out).size;simp;omega) ?_;intro v1 w9 hown9 hg9 _;have HK9:=lh (show Keep w w9 from HO3.kept hg9 ((HK.out.trans HK5.out).alloc _) (Nat.le_refl _));have HO9:=lh hown9;clear hown9 hg9 HO3;go_wp2;go_roundw
       case rel=>exact ⟨_,_,_,_,r,y :: s,pre++[x],v1,(by rw [HRL.out]),(by rw [HM.out];rfl),rfl,HA2.out,HB.out,HO9.out,HEQ.out,(by show _≤_;have:=HLE.out;simp at this ⊢;omega),HK9.out⟩
       case measure=>simp [lenV];have:=HN.out;have:=HRL.out;omega
      ·by_cases hyx:y<x
       ·have d1:decide (x≤y)=false:=by simp;omega
        have d2:decide (y≤x)=true:=by simp;omega
        have HEQ:=lh (show pre++[y]++Roa.orA (x :: r) s=Roa.orA a b by have:=HE.out;rw [Roa.orA_gt _ _ _ _ hyx] at this;rw [← this,List.append_assoc];rfl);clear hxy hyx;go_wp2;go_quiet (fail);go_wp2;go_quiet (fail);go_wp2;go_quiet (fail);go_wp2_with (go_at_call 258;refine hold ?_);refine unhold ?_;refine (aor1_any _ _ _).mono ?_;rintro e w5 ⟨rfl,hk5⟩;have HK5:=lh (show Keep wr w5 from Keep.trans (by repeat first|exact kp0|apply kp1|apply kp2|apply kp3|apply kp4) hk5);clear hk5;go_wp2_with (at_builtin;refine hold ?_);refine unhold ?_;have HO3:OwnU16 (w5.alloc (.cells #[.int .u16 (y:Int)] 126)) w.heap.size (.slice Av P cv) pre:=HO.out.keep (HK5.out.trans (Keep.alloc (Keep.refl _) _));refine wpList_app elt_u16 u16_len u16_one rfl (.tmp 69) (.tmp 71) rfl (ys:=[y]) HO3 rfl rfl (sl_one _ (by omega) (by omega) (fun j u hu=>by match j,hu with|0,hu=>cases hu;simp [go_sem])) (by have:=HLE.out;simp;omega) (by have:=(HK.out.trans HK5.out).size;simp;omega) ?_;intro v1 w9 hown9 hg9 _;have HK9:=lh (show Keep w w9 from HO3.kept hg9 ((HK.out.trans HK5.out).alloc _) (Nat.le_refl _));have HO9:=lh hown9;clear hown9 hg9 HO3;go_wp2;go_roundw
        case rel=>exact ⟨_,_,_,_,x :: r,s,pre++[y],v1,(by rw [HN.out];rfl),(by rw [HSL.out]),rfl,HA.out,HB2.out,HO9.out,HEQ.out,(by show _≤_;have:=HLE.out;simp at this ⊢;omega),HK9.out⟩
        case measure=>simp [lenV];have:=HM.out;have:=HSL.out;omega
       ·have hEE:x=y:=by omega
        subst hEE;have d1:decide (x≤x)=true:=by simp
        have HEQ:=lh (show pre++[x]++Roa.orA r s=Roa.orA a b by have:=HE.out;rw [Roa.orA_eq] at this;rw [← this,List.append_assoc];rfl);clear hxy hyx;go_wp2;go_quiet (fail);go_wp2;go_quiet (fail);go_wp2;go_quiet (fail);go_wp2;go_quiet (fail);go_wp2_with (go_at_call 258;refine hold ?_);refine unhold ?_;refine (aor1_any _ _ _).mono ?_;rintro e w5 ⟨rfl,hk5⟩;have HK5:=lh (show Keep wr w5 from Keep.trans (by repeat first|exact kp0|apply kp1|apply kp2|apply kp3|apply kp4) hk5);clear hk5;go_wp2_with (at_builtin;refine hold ?_);refine unhold ?_;have HO3:OwnU16 (w5.alloc (.cells #[.int .u16 (x:Int)] 126)) w.heap.size (.slice Av P cv) pre:=HO.out.keep (HK5.out.trans (Keep.alloc (Keep.refl _) _));refine wpList_app elt_u16 u16_len u16_one rfl (.tmp 69) (.tmp 71) rfl (ys:=[x]) HO3 rfl rfl (sl_one _ (by omega) (by omega) (fun j u hu=>by match j,hu with|0,hu=>cases hu;simp [go_sem])) (by have:=HLE.out;simp;omega) (by have:=(HK.out.trans HK5.out).size;simp;omega) ?_;intro v1 w9 hown9 hg9 _;have HK9:=lh (show Keep w w9 from HO3.kept hg9 ((HK.out.trans HK5.out).alloc _) (Nat.le_refl _));have HO9:=lh hown9;clear hown9 hg9 HO3;go_wp2;go_roundw
        case rel=>exact ⟨_,_,_,_,r,s,pre++[x],v1,(by rw [HRL.out]),(by rw [HSL.out]),rfl,HA2.out,HB2.out,HO9.out,HEQ.out,(by show _≤_;have:=HLE.out;simp at this ⊢;omega),HK9.out⟩
        case measure=>simp [lenV];have:=HM.out;have:=HSL.out;have:=HN.out;have:=HRL.out;omega
theorem aor_any(A B:Option Addr)(c d:Nat)(a b:List Nat)(w:World)(h:Sl w 1 u16V A c a)(h2:Sl w 1 u16V B d b)(hl:a.length≤10000)(hl2:b.length≤10000) :
 Calls Tryz.prog 216 #[.slice A a.length c,.slice B b.length d] w fun e w'=>∃ v,e=.returned v∧OwnU16 w' w.heap.size v (Roa.orA a b)∧Keep w w':=by
 have HM:=lh (amerge_any A B c d a b w h h2 hl hl2);generalize a.length=n at HM ⊢;generalize b.length=m at HM ⊢;clear h h2 hl hl2;go_enter Tryz.func216,Tryz.ntmps216;go_wp2_with (go_at_call 257;refine hold ?_);refine unhold ?_;refine HM.out.mono ?_;rintro e w1 ⟨v,rfl,ho,hk⟩;have HO:=lh ho;have HK:=lh hk;clear ho hk HM;go_wp2;go_ret;exact ⟨v,rfl,HO.out,HK.out⟩
end Go.Proofs.YtpkocnpamcchcaaGreatDoor
