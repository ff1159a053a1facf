/- Parts of the proof. -/
import Derived.WalkMore
import Derived.Test.YtpkocnpamcchcaaGreatDoorK19
set_option maxRecDepth 100000
set_option maxHeartbeats 4000000
set_option linter.unusedSimpArgs false
set_option linter.unusedVariables false
set_option linter.unnecessarySimpa false
namespace Go.Proofs.YtpkocnpamcchcaaGreatDoor
open Go.RowKit Go.Zone Go.Shelf
attribute [local go_sem] zone stepZ fill lookFs goes goesUpon dropFs cell_gro frozen_gro size_gro lt_add drew_gro tape_gro keep_refl
attribute [local go_sem] lt_add2 lt_add3 lt_add4 lt_add5 lt_add6 lt_add7 lt_add8 lt_add9 lt_add10 lt_add11 lt_add12
theorem elt_int:Elt Tryz.prog 24 3 1 8:=by
 obtain ⟨i,hi,h1,h2,h3⟩:=info_parts (show (Tryz.prog.info? 3).map (fun i=>(i.zero,i.size,i.bytes))=some (some (.int .i64 0),1,8) by kernel_rfl);exact ⟨i,_,Tryz.underlying24,hi,h1,h2,h3,rfl,by decide,by decide⟩
theorem n64_len(x:Nat):(n64V x).length=1:=rfl
theorem n64_one(x:Nat):∀ u∈n64V x,u.oneCell'=true:=fun u hu=>by simp [n64V] at hu;subst hu;rfl
abbrev OwnZ(w:World)(base:Nat)(v:Value)(xs:List Nat):Prop:=Own w base 3 1 n64V v xs
def stepS(many row id:Nat):Option (List Nat)→Option (List Nat)
 | none=>none
 | some l=>if id=l.length∧id<many then some (l++[row+1]) else if id+1=l.length then some (l.set id (row+1)) else none
def srtTo(many:Nat)(ids:List Nat):Nat→Option (List Nat)
 | 0=>some []
 | k+1=>stepS many k (ids.getD k 0) (srtTo many ids k)
theorem srtTo_none(many:Nat)(ids:List Nat)(k:Nat)(h:srtTo many ids k=none):∀ d,srtTo many ids (k+d)=none
 | 0=>h
 | d+1=>by
   show stepS many (k+d) _ (srtTo many ids (k+d))=none;rw [srtTo_none many ids k h d];rfl
theorem srtTo_len(many:Nat)(ids:List Nat):∀ k l,srtTo many ids k=some l→l.length≤k
 | 0,l,h=>by simp [srtTo] at h;subst h;exact Nat.zero_le _
 | k+1,l,h=>by
   have ih:=srtTo_len many ids k;simp only [srtTo] at h
   cases hq:srtTo many ids k with
   | none=>rw [hq] at h;cases h
   | some m =>
     rw [hq] at h;have:=ih m hq;simp only [stepS] at h
     split at h
     ·injection h with h;subst h;simp;omega
     ·split at h
      ·injection h with h;subst h;simp;omega
      ·cases h
theorem srtTo_le(many:Nat)(ids:List Nat):∀ k l,srtTo many ids k=some l→∀ x∈l,x≤k
 | 0,l,h,x,hx=>by simp [srtTo] at h;subst h;cases hx
 | k+1,l,h,x,hx=>by
   have ih:=srtTo_le many ids k;simp only [srtTo] at h
   cases hq:srtTo many ids k with
   | none=>rw [hq] at h;cases h
   | some m =>
     rw [hq] at h;have:=ih m hq;simp only [stepS] at h
     split at h
     ·injection h with h;subst h
      rcases List.mem_append.1 hx with hx|hx
      ·exact Nat.le_succ_of_le (this x hx)
      ·simp at hx;omega
     ·split at h
      ·injection h with h;subst h
       rcases List.mem_or_eq_of_mem_set hx with hx|hx
       ·exact Nat.le_succ_of_le (this x hx)
       ·omega
      ·cases h
def srtF(many:Nat)(ids:List Nat):Option (List Nat) :=
 match srtTo many ids ids.length with
 | none=>none
 | some l=>if l.length=many then some l else none
inductive SrtP (w:World):Option (List Nat)→Value→Prop
 | nil_:SrtP w none (.pointer none)
 | at_ (b c:Nat) (A:Option Addr) (l:List Nat) (h:w.cell? ⟨b,0,none⟩=some (.slice A l.length c)) (hs:Sl w 1 n64V A c l) (hb:∀ x∈l,x≤16777216):SrtP w (some l) (.pointer (some ⟨b,0,none⟩))
theorem SrtP.keep{w w':World}{o:Option (List Nat)}{v:Value}(h:SrtP w o v)(hk:Keep w w'):SrtP w' o v:=by
 cases h with
 | nil_=>exact .nil_
 | at_ b c A l h hs hb=>exact .at_ b c A l ((hk.cell (p:=⟨b,0,none⟩) (block_lt_of_cell h)).trans h) (hs.keep hk) hb
theorem srt_early{many:Nat}{ids:List Nat}{k:Nat}(hk:k<ids.length)(h:srtTo many ids (k+1)=none):srtF many ids=none:=by
 have h2:=srtTo_none many ids (k+1) h (ids.length-(k+1));rw [show k+1+(ids.length-(k+1))=ids.length by omega] at h2;unfold srtF;rw [h2]
theorem own_block{α:Type}{w:World}{base k n c:Nat}{e:TypeId}{enc:α→List Value}{A:Option Addr}{xs:List α}(h:Own w base e k enc (.slice A n c) xs)(hx:0<xs.length):∃ g,A=some ⟨g,0,none⟩∧n=xs.length:=by
 rcases h.2 with ⟨_,h0⟩ | ⟨g,cap,cur,hv,_⟩
 ·omega
 ·injection hv with hA hn _;exact ⟨g,hA,hn⟩
theorem srtof_any(A:Option Addr)(c many:Nat)(ids:List Nat)(w:World)(h:Sl w 1 n64V A c ids)(hl:ids.length≤16777216)(hm:many≤16777216) :
 Calls Tryz.prog 81 #[.slice A ids.length c,.int .i64 many] w fun e w'=>∃ p er,e=.returned (.tuple #[p,.int .i64 er])∧SrtP w' (srtF many ids) p∧Keep w w':=by
 have H:=lh h;generalize hn:ids.length=n at hl;have HN:=lh hn;have hd1:decide ((16777216:Int)<(n:Int))=false:=by simp;omega
 have hd2:decide ((16777216:Int)<(many:Int))=false:=by simp;omega
 have HF:=lh (show srtF many ids=(match srtTo many ids n with|none=>none|some l=>if l.length=many then some l else none) by unfold srtF;rw [hn]);clear h hn;go_enter Tryz.func81,Tryz.ntmps81;go_wp2;go_step3;go_wp2;have hRB:Row (w.alloc (.cells #[.slice none 0 0] 205)) w.heap.size 205 [.slice none 0 0]:=row_alloc _ _ _;have hKB:Keep w (w.alloc (.cells #[.slice none 0 0] 205)):=Keep.alloc (Keep.refl _) _;have hgb:w.heap.size≤w.heap.size:=Nat.le_refl _;generalize hW:w.alloc (.cells #[.slice none 0 0] 205)=wb at hRB hKB ⊢;clear hW;have HZB:=lh (Nat.le_refl w.heap.size);generalize hb:w.heap.size=b at hRB ⊢;have HBE:=lh hb;have HRB:=lh hRB;have HKB:=lh hKB;clear hRB hKB hgb hb HZB;go_step3;go_wp2;go_loopw [24] (fun vi wr=>∃ (k:Nat) (l:List Nat) (v:Value),k≤n∧vi=.int .i64 k∧Hid (srtTo many ids k=some l)∧Hid (Row wr b 205 [v])∧Hid (OwnZ wr b v l)∧Hid (Keep w wr)) (fun vi _=>n-(intOf vi).toNat)
 case atStart=>exact ⟨0,[],.slice none 0 0,Nat.zero_le _,rfl,rfl,HRB.out,Own.nil_ _ _ _ _ _,HKB.out⟩
 case round =>
  clear HRB HKB;obtain ⟨k,l,v,hk,rfl,HS,HR,HO,HK⟩:=hrel;obtain ⟨Av,cv,hv⟩:=own_form HO.out;have hll:=srtTo_len many ids k l HS.out
  by_cases hlt:k<n
  ·have hlt2:k<ids.length:=by rw [HN.out];exact hlt
   obtain ⟨bA,off,hA,hbA,h0⟩:=sl_n64 (H.out.keep HK.out) k hlt2;have HST:=lh (show srtTo many ids (k+1)=stepS many k ids[k] (some l) by
    show stepS many k (ids.getD k 0) (srtTo many ids k)=_;rw [HS.out];congr 1;simp [hlt2])
   have HEA:=lh (fun h=>srt_early (many:=many) hlt2 h);subst hA;generalize ids[k]=id at h0 HST;have x0:=HR.out.cell 0 _ rfl;have hb:=HR.out.lt;have q0:=HR.out.soft 0;have e1:IntKind.i64.wrap ((k:Int)+1)=((k+1:Nat):Int):=by rw [IntWalk.i64_in _ ⟨by omega,by omega⟩];omega
   generalize hL:l.length=L at hll hv;have HLL:=lh hL;clear hL;subst hv
   by_cases h1:id=L
   ·by_cases h2:id<many
    ·have HS2:=lh (show srtTo many ids (k+1)=some (l++[k+1]) by rw [HST.out,stepS,if_pos ⟨by rw [HLL.out];exact h1,h2⟩]);have e2:((id:Int)==(L:Int))=true:=by simp;omega
     have e3:decide ((id:Int)<(many:Int))=true:=by simp;omega
     have e4:(id:Int)=(L:Int):=by omega
     have e5:(id:Int)<(many:Int):=by omega
     clear HST HEA h1 h2;go_wp2_with (at_builtin;refine hold ?_);refine unhold ?_;have HO3:OwnZ (wr.alloc (.cells #[.int .i64 ((k+1:Nat):Int)] 3)) b (.slice Av L cv) l:=HO.out.keep (Keep.alloc (Keep.refl _) _);have HR3:Row (wr.alloc (.cells #[.int .i64 ((k+1:Nat):Int)] 3)) b 205 [.slice Av L cv]:=HR.out.keep (Keep.alloc (Keep.refl _) _);refine wpList_app elt_int n64_len n64_one rfl (.tmp 46) (.tmp 49) rfl (ys:=[k+1]) HO3 rfl rfl (sl_one _ (by omega) (by omega) (fun j u hu=>by match j,hu with|0,hu=>cases hu;simp [go_sem])) (by have:=HLL.out;simp;omega) (by simp;omega) ?_;intro v1 w2 hown2 hg2 _;obtain ⟨A1,c1,rfl⟩:=own_form hown2;generalize (l++[k+1]).length=L1 at hown2;have HKA:=lh (show Keep w w2 from Own.kept HO3 hg2 ((HK.out).alloc _) (Nat.le_of_eq HBE.out));have hr2:Row w2 b 205 [.slice Av L cv]:=row_grown HR3 hg2 (own_row_ne HO3 HR3 (by decide));have HO4:=lh hown2;have HR4:=lh hr2;have HNE:=lh (own_row_ne hown2 hr2 (by decide));have y0:=hr2.cell 0 _ rfl;have hb2:=hr2.lt;have p0:=hr2.soft 0;clear hown2 hg2 HO3 HR3 hr2 x0 hb q0 HO HR HK;go_wp2;go_roundw
     case rel=>exact ⟨k+1,l++[k+1],.slice A1 L1 c1,by omega,by go_num,HS2.out,HR4.out.set 0 _,Zone.Own.turn HO4.out (Turn.set w2 ⟨b,0,none⟩ (.slice A1 L1 c1)) (fun i hi=>by simp only [List.mem_singleton] at hi;subst hi;exact HNE.out),HKA.out.setCell (Nat.le_of_eq HBE.out) _⟩
     case measure=>simp [intOf];omega
    ·have HS2:=lh (HEA.out (by rw [HST.out,stepS,if_neg (by omega),if_neg (by have:=HLL.out;omega)]));have e2:((id:Int)==(L:Int))=true:=by simp;omega
     have e3:decide ((id:Int)<(many:Int))=false:=by simp;omega
     have e4:(id:Int)=(L:Int):=by omega
     have e5:¬ (id:Int)<(many:Int):=by omega
     obtain ⟨z,hz⟩:∃ z:Int,z=(L:Int)-1:=⟨_,rfl⟩;have e6:IntKind.i64.wrap ((L:Int)-1)=z:=by rw [IntWalk.i64_in _ ⟨by omega,by omega⟩];omega
     have e7:((id:Int)==z)=false:=by simp;omega
     have e8:¬ (id:Int)=z:=by omega
     clear HST HEA h1 h2 hz;go_wp2
     (try rw [Exit.noGoto_ret])
     exact bodyPost_ret (v:=.tuple #[.pointer none,.int .i64 2]) (by simp [results,Tryz.results81,go_sem]) rfl ⟨_,_,rfl,by rw [HS2.out];exact .nil_,HK.out⟩
   ·have e2:((id:Int)==(L:Int))=false:=by simp;omega
    have e4:¬ (id:Int)=(L:Int):=by omega
    obtain ⟨z,hz⟩:∃ z:Int,z=(L:Int)-1:=⟨_,rfl⟩;have e6:IntKind.i64.wrap ((L:Int)-1)=z:=by rw [IntWalk.i64_in _ ⟨by omega,by omega⟩];omega
    by_cases h3:id+1=L
    ·have HS2:=lh (show srtTo many ids (k+1)=some (l.set id (k+1)) by rw [HST.out,stepS,if_neg (by have:=HLL.out;omega),if_pos (by have:=HLL.out;omega)]);have e6':IntKind.i64.wrap ((L:Int)-1)=(id:Int):=by rw [e6];omega
     have e7:((id:Int)==(id:Int))=true:=by simp
     clear e6;have e9:decide ((0:Int)≤(id:Int))=true:=by simp
     have hil:id<L:=by omega
     obtain ⟨gA,hAg,hq⟩:=own_block HO.out (by have:=HLL.out;omega);clear hq;subst hAg;obtain ⟨c0,c1,c2,c3⟩:=HO.out.cell1 n64_f HLL.out.symm id (by have:=HLL.out;omega);have ho2:=HO.out.set1 n64_f HLL.out.symm id (k+1) rfl;have hne:=own_row_ne HO.out HR.out (by decide);have hgne:gA≠b:=fun e=>hne (by rw [e];rfl);have HR2:=lh (HR.out.other id (.int .i64 ((k+1:Nat):Int)) hgne);have HO2:=lh ho2;have HK2:=lh (HK.out.setCell (a:=⟨gA,id,none⟩) (by rw [HBE.out];exact c3) (.int .i64 ((k+1:Nat):Int)));generalize l[id]'(by have:=HLL.out;omega)=y at c0;clear HST HEA h1 h3 hz ho2 hne c3;go_wp2;go_roundw
     case rel=>exact ⟨k+1,_,_,by omega,by go_num,HS2.out,HR2.out,HO2.out,HK2.out⟩
     case measure=>simp [intOf];omega
    ·have HS2:=lh (HEA.out (by rw [HST.out,stepS,if_neg (by have:=HLL.out;omega),if_neg (by have:=HLL.out;omega)]));have e7:((id:Int)==z)=false:=by simp;omega
     have e8:¬ (id:Int)=z:=by omega
     clear HST HEA h1 h3 hz;go_wp2
     (try rw [Exit.noGoto_ret])
     exact bodyPost_ret (v:=.tuple #[.pointer none,.int .i64 2]) (by simp [results,Tryz.results81,go_sem]) rfl ⟨_,_,rfl,by rw [HS2.out];exact .nil_,HK.out⟩
  ·have hkn:k=n:=by omega
   subst hkn;have x0:=HR.out.cell 0 _ rfl;have hb:=HR.out.lt;have hk16:k≤16777216:=hl;have HFF:=lh (show srtF many ids=if l.length=many then some l else none by rw [HF.out,HS.out]);have HB1:=lh x0;obtain ⟨A8,c8,hv8,hsl⟩:=HO.out.sl (fun _=>rfl) (by omega);have HSL:=lh hsl;clear hsl;generalize hL:l.length=L at hll hv hv8 x0 HFF HB1 HSL;have HLL:=lh hL;clear hL;subst hv;injection hv8 with hv8 _ hc8;subst hv8;subst hc8
   by_cases hm2:L=many
   ·have e2:((L:Int)==(many:Int))=true:=by simp;omega
    have e3:(L:Int)=(many:Int):=by omega
    have HF2:=lh (HFF.out.trans (if_pos hm2));clear hm2;go_wp2
    (try rw [Exit.noGoto_ret])
    exact bodyPost_ret (v:=.tuple #[.pointer (some ⟨b,0,none⟩),.int .i64 0]) (by simp [results,Tryz.results81,go_sem]) rfl ⟨_,_,rfl,by rw [HF2.out];exact .at_ b _ _ l (by rw [HLL.out];exact HB1.out) HSL.out (fun x hx=>Nat.le_trans (srtTo_le many ids k l HS.out x hx) hk16),HK.out⟩
   ·have e2:((L:Int)==(many:Int))=false:=by simp;omega
    have e3:¬ (L:Int)=(many:Int):=by omega
    have HF2:=lh (HFF.out.trans (if_neg hm2));clear hm2;go_wp2
    (try rw [Exit.noGoto_ret])
    exact bodyPost_ret (v:=.tuple #[.pointer none,.int .i64 2]) (by simp [results,Tryz.results81,go_sem]) rfl ⟨_,_,rfl,by rw [HF2.out];exact .nil_,HK.out⟩
def srtL:Option (List Nat)→List Nat
 | none=>[]
 | some l=>l
def srtB(o:Option (List Nat)):List UInt8:=(srtL o).flatMap (le · 4)
theorem srtlen_any{o:Option (List Nat)}{p:Value}(w:World)(h:SrtP w o p):Calls Tryz.prog 133 #[p] w fun e w'=>e=.returned (.int .i64 ((srtL o).length:Nat))∧Keep w w':=by
 cases h with
 | nil_ =>
   go_enter Tryz.func133,Tryz.ntmps133;go_wp2;go_ret;exact ⟨rfl,(by repeat first|exact kp0|apply kp1|apply kp2|apply kp3|apply kp4)⟩
 | at_ b c A l h hs hb =>
   have hbb:=block_lt_of_cell h;simp only [srtL];generalize l.length=L at h ⊢;clear hs hb;go_enter Tryz.func133,Tryz.ntmps133;go_wp2;go_ret;exact ⟨rfl,(by repeat first|exact kp0|apply kp1|apply kp2|apply kp3|apply kp4)⟩
theorem flatN4_len:∀ l:List Nat,(l.flatMap (le · 4)).length=l.length*4
 | []=>rfl
 | x :: r=>by simp only [List.flatMap_cons,List.length_append,flatN4_len r,le_len,List.length_cons];omega
theorem srtbytes_any{o:Option (List Nat)}{p:Value}(w:World)(h:SrtP w o p)(hl:(srtL o).length≤16777216):Calls Tryz.prog 82 #[p] w fun e w'=>∃ v,e=.returned v∧OwnB w' w.heap.size v (srtB o)∧Keep w w':=by
 have HLN:=lh (srtlen_any w h)
 cases h with
 | nil_ =>
   simp only [srtL] at HLN;go_enter Tryz.func82,Tryz.ntmps82;go_wp2_with (go_at_call 133;refine hold ?_);refine unhold ?_;refine HLN.out.mono ?_;rintro e w1 ⟨rfl,hk1⟩;have HK1:=lh hk1;clear hk1;go_wp2;refine wp_loop_rounds 1 ?_;rw [rounds_succ];go_wp2;exact bodyPost_ret (v:=.slice none 0 0) (by simp [results,Tryz.results82,go_sem]) rfl ⟨_,rfl,Own.nil_ _ _ _ _ _,HK1.out⟩
 | at_ b c A l h hs hb =>
   have H:=lh h;have HS:=lh hs;have HB:=lh hb;simp only [srtL] at HLN hl;generalize hL:l.length=L at H h HLN hl;have HLL:=lh hL;clear h hs hb hL;go_enter Tryz.func82,Tryz.ntmps82;go_wp2_with (go_at_call 133;refine hold ?_);refine unhold ?_;refine HLN.out.mono ?_;rintro e w1 ⟨rfl,hk1⟩;have HK1:=lh hk1;clear hk1;go_wp2;go_loopw [3,7] (fun vb vi wr=>∃ (k:Nat) (v:Value),k≤L∧vi=.int .i64 k∧v=vb∧Hid (OwnB wr w.heap.size v ((l.take k).flatMap (le · 4)))∧Hid (Keep w wr)) (fun _ vi _=>L-(intOf vi).toNat)
   case atStart=>exact ⟨0,.slice none 0 0,Nat.zero_le _,rfl,rfl,Own.nil_ _ _ _ _ _,HK1.out⟩
   case round =>
    clear HK1;obtain ⟨k,v,hk,rfl,rfl,HO,HK⟩:=hrel
    by_cases hlt:k<L
    ·have hlt2:k<l.length:=by rw [HLL.out];exact hlt
     have x0:=(HK.out.cell (p:=⟨b,0,none⟩) (block_lt_of_cell H.out)).trans H.out;have hbb:=block_lt_of_cell x0;obtain ⟨bA,off,hA,hbA,h0⟩:=sl_n64 (HS.out.keep HK.out) k hlt2;have hx:=HB.out l[k] (List.getElem_mem hlt2);have HTK:=lh (show (l.take (k+1)).flatMap (le · 4)=(l.take k).flatMap (le · 4)++le l[k] 4 by rw [List.take_succ_eq_append_getElem hlt2,List.flatMap_append];simp);have hfl:((l.take k).flatMap (le · 4)).length≤k*4:=by rw [flatN4_len,List.length_take];omega
     subst hA;generalize l[k]=x at h0 hx HTK;obtain ⟨A8,c8,hv8,hsl⟩:=HO.out.sl b8_len (by omega);have HC:=lh (app32_any A8 c8 _ x (by omega) wr hsl (by omega));generalize hML:((l.take k).flatMap (le · 4)).length=M at hv8 HC;subst hv8;have e3:IntKind.u32.wrap (x:Int)=(x:Int):=by simp [IntKind.wrap,IntKind.signed,IntKind.bits];omega
     clear hfl hsl hML;go_wp2_with (go_at_call 31;refine hold ?_);refine unhold ?_;refine HC.out.mono ?_;rintro e w2 ⟨v2,rfl,ho2,hk2⟩;have HO2:=lh (ho2.base_mono HK.out.size);have HK2:=lh (HK.out.trans hk2);clear ho2 hk2 HC;go_wp2;go_roundw
     case rel=>exact ⟨k+1,v2,by omega,by go_num,rfl,(by show OwnB _ _ _ _;rw [HTK.out];exact HO2.out),HK2.out⟩
     case measure=>simp [intOf];omega
    ·have hkn:k=L:=by omega
     subst hkn;rw [← HLL.out,List.take_length] at HO;go_wp2;exact bodyPost_ret (v:=v) (by simp [results,Tryz.results82,go_sem]) rfl ⟨_,rfl,HO.out,HK.out⟩
end Go.Proofs.YtpkocnpamcchcaaGreatDoor
namespace Go.Zone
open Go.RowKit
section
variable {α:Type} {w w':World} {base g n c k:Nat} {e:TypeId} {enc:α→List Value} {xs:List α}
theorem Own.cellK(hk:∀ x,(enc x).length=k)(h:Own w base e k enc (.slice (some ⟨g,0,none⟩) n c) xs)(i:Nat)(hi:i<xs.length)(j:Nat)(u:Value)(hu:(enc xs[i])[j]? =some u) :
 w.cell? ⟨g,i*k+j,none⟩=some u∧w.frozen? ⟨g,i*k+j,none⟩=false∧g<w.heap.size∧base≤g:=by
 rcases h.2 with ⟨_,h'⟩ | ⟨g',cap',cur,h',hb,hg,hnc,hcm,hcs,htake⟩
 ·omega
 ·simp only [Value.slice.injEq,Option.some.injEq,Addr.mk.injEq,and_true,true_and] at h';obtain ⟨rfl,_,_⟩:=h';refine ⟨?_,by simp [World.frozen?,hg],(Array.getElem?_eq_some_iff.1 hg).1,hb⟩;have h1:=flat_get hk xs i j hi u hu;have hlt:i*k+j<xs.length*k:=by
   have:=(List.getElem?_eq_some_iff.1 h1).1
   rwa [flat_len hk] at this
  rw [← htake,List.getElem?_take,if_pos hlt] at h1;simp only [World.cell?,hg,Option.isSome_none,Bool.false_eq_true,if_false]
  simpa using h1
theorem Own.setK(h:Own w base e k enc (.slice (some ⟨g,0,none⟩) n c) xs)(hn:n=xs.length)(m:Nat)(u:Value)(ys:List α)(hl:ys.length=xs.length)(hy:(xs.flatMap enc).set m u=ys.flatMap enc) :
 Own (w.setCell ⟨g,m,none⟩ u) base e k enc (.slice (some ⟨g,0,none⟩) n c) ys:=by
 subst hn;have:=(World.ownsRow.stored h m u).1;unfold Zone.Own;rw [hl,← hy];exact this
end
end Go.Zone
namespace Go.Proofs.YtpkocnpamcchcaaGreatDoor
open Go.RowKit Go.Zone Go.Shelf
attribute [local go_sem] zone stepZ fill lookFs goes goesUpon dropFs cell_gro frozen_gro size_gro lt_add drew_gro tape_gro keep_refl
attribute [local go_sem] lt_add2 lt_add3 lt_add4 lt_add5 lt_add6 lt_add7 lt_add8 lt_add9 lt_add10 lt_add11 lt_add12
theorem sl_rn{w:World}{c:Nat}{A:Option Addr}{xs:List Pr}(h:Sl w 2 rnV A c xs)(i:Nat)(hi:i<xs.length):∃ b off,A=some ⟨b,off,none⟩∧b<w.heap.size∧w.cell? ⟨b,off+i*2,none⟩=some (.int .u16 (xs[i].1:Int))∧w.cell? ⟨b,off+i*2+1,none⟩=some (.int .u16 (xs[i].2:Int)):=by
 obtain ⟨b,off,hA,hc⟩:=h.at_ i hi;have h0:=hc 0 _ rfl;have h1:=hc 1 _ rfl;exact ⟨b,off,hA,World.block_lt_of_cell? w _ h0,h0,h1⟩
theorem bump_set(A:List Pr)(p:Pr)(u:Nat):((A++[p]).flatMap rnV).set (A.length*2+1) (.int .u16 (u:Int))=(A++[(p.1,u)]).flatMap rnV:=by
 rw [List.flatMap_append,List.flatMap_append,List.set_append_right _ _ (by rw [flat_len rn_len];omega),flat_len rn_len,show A.length*2+1-A.length*2=1 by omega];rfl
theorem rof_runs(A:Option Addr)(c:Nat)(a:List Nat)(w:World)(h:Sl w 1 u16V A c a)(hb:∀ x∈a,x<64)(hl:a.length≤65536) :
 Calls Tryz.prog 248 #[.slice A a.length c] w fun e w'=>∃ v,e=.returned v∧OwnRn w' w.heap.size v (Roa.runsTo a a.length)∧Keep w w':=by
 have H:=lh h;have HB:=lh hb;generalize hn:a.length=n at hl;have HN:=lh hn;clear h hb hn;go_enter Tryz.func248,Tryz.ntmps248;go_wp2;go_loopw [3,8] (fun vr vi wr=>∃ (k:Nat) (v:Value),k≤n∧vi=.int .i64 k∧v=vr∧Hid (OwnRn wr w.heap.size v (Roa.runsTo a k))∧Hid (Keep w wr)) (fun _ vi _=>n-(intOf vi).toNat)
 case atStart=>exact ⟨0,.slice none 0 0,Nat.zero_le _,rfl,rfl,Own.nil_ _ _ _ _ _,Keep.refl _⟩
 case round =>
  obtain ⟨k,v,hk,rfl,rfl,HO,HK⟩:=hrel
  by_cases hlt:k<n
  ·have hkn:k<a.length:=by rw [HN.out];exact hlt
   obtain ⟨b,off,hA,hb,h0⟩:=sl_u16 (H.out.keep HK.out) k hkn;subst hA;have hrl:=Roa.runsTo_len a k;have hrb:=Roa.arrRuns_le a k;have HRL:=lh (show (Roa.runsTo a k).length≤k by omega);have HST:=lh (show Roa.runsTo a (k+1)=if 0<k∧a.getD k 0=a.getD (k-1) 0+1 then Roa.bump (Roa.runsTo a k) else Roa.runsTo a k++[(a.getD k 0,0)] from rfl);have HGK:=lh (getD_at _ _ hkn);have hyb:=HB.out a[k] (List.getElem_mem _);clear hrl hrb;have hcase:(0<k∧a.getD k 0=a.getD (k-1) 0+1)∨¬ (0<k∧a.getD k 0=a.getD (k-1) 0+1):=Classical.em _
   rcases hcase with hc|hc
   ·obtain ⟨q,hq⟩:∃ q,q+1=k:=⟨k-1,by omega⟩;have hq2:q<n:=by omega
    have hq3:q<a.length:=by omega
    obtain ⟨_,h1⟩:=sl_u16' (H.out.keep HK.out) q hq3;have hxb:=HB.out a[q] (List.getElem_mem _);have hgq:a.getD (k-1) 0=a[q]:=by rw [show k-1=q by omega];exact getD_at _ _ hq3
    obtain ⟨B,p,hBp,hpe⟩:=Roa.runsTo_last a k hc.1;have HS2:=lh (show Roa.runsTo a (k+1)=B++[(p.1,p.2+1)] by rw [HST.out,if_pos hc,hBp,Roa.bump_app]);have hxy:a[k]=a[q]+1:=by rw [← HGK.out,← hgq];exact hc.2
    rw [hgq] at hpe;rw [hBp] at HO;have hBl:B.length<k:=by have:=HRL.out;rw [hBp] at this;simp at this;omega
    obtain ⟨A8,c8,hv⟩:=own_form HO.out;obtain ⟨g,hAg,hLL⟩:=own_block (by rw [← hv];exact HO.out) (by simp);subst hAg;rw [hv] at HO;obtain ⟨z0,z1,z2,z3⟩:=HO.out.cellK rn_len B.length (by simp) 1 (.int .u16 (p.2:Int)) (by simp [rnV]);have ho2:=HO.out.setK rfl (B.length*2+1) (.int .u16 ((p.2+1:Nat):Int)) (B++[(p.1,p.2+1)]) (by simp) (bump_set B p (p.2+1));have HO2:=lh ho2;have HG:=lh z3;generalize hM:(B++[p]).length=M at hv HO2;have hMB:M=B.length+1:=by rw [← hM];simp
    have e6:IntKind.i64.wrap ((M:Int)-1)=(B.length:Int):=by rw [IntWalk.i64_in _ ⟨by omega,by omega⟩];omega
    have hBM:B.length<M:=by omega
    have e1:IntKind.i64.wrap ((k:Int)-1)=(q:Int):=by rw [IntWalk.i64_in _ ⟨by omega,by omega⟩];omega
    have e00:(0:Int)<(k:Int):=by omega
    generalize a[q]=x at h1 hxb hxy hpe;generalize a[k]=y at h0 hxy hyb;have e3:IntKind.u16.wrap ((x:Int)+1)=((x+1:Nat):Int):=by simp [IntKind.wrap,IntKind.signed,IntKind.bits];omega
    have e4:((y:Int)==((x+1:Nat):Int))=true:=by simp;omega
    have e5:(y:Int)=((x+1:Nat):Int):=by omega
    have e7:IntKind.u16.wrap ((p.2:Int)+1)=((p.2+1:Nat):Int):=by simp [IntKind.wrap,IntKind.signed,IntKind.bits];omega
    generalize p.2=p2 at z0 HO2 e7 HS2;generalize B.length=L at z0 z1 e6 HO2 hBM;subst hv;clear HST HGK hq hc hBp hpe hxy hgq ho2 hM hMB hLL hBl z3 HO;go_wp2;go_roundw
    case rel=>exact ⟨k+1,_,by omega,by go_num,rfl,(by show OwnRn _ _ _ _;rw [HS2.out];exact HO2.out),HK.out.setCell HG.out _⟩
    case measure=>simp [intOf];omega
   ·have HS2:=lh (show Roa.runsTo a (k+1)=Roa.runsTo a k++[(a[k],0)] by rw [HST.out,if_neg hc,HGK.out])
    by_cases h00:k=0
    ·have e0:decide ((0:Int)<(k:Int))=false:=by simp;omega
     have e00:¬ (0:Int)<(k:Int):=by omega
     generalize a[k]=y at h0 hyb HS2;clear HST HGK hc h00;go_wp2_with (at_builtin;refine hold ?_);refine unhold ?_;have HO3:OwnRn (wr.alloc (.cells #[.int .u16 (y:Int),.int .u16 0] 277)) w.heap.size v (Roa.runsTo a k):=HO.out.keep (Keep.alloc (Keep.refl _) _);refine wpList_app elt_rn rn_len rn_one rfl (.tmp 35) (.tmp 38) rfl (ys:=[(y,0)]) HO3 rfl rfl (sl_one _ (by omega) (by omega) (fun j u hu=>by match j,hu with|0,hu=>cases hu;simp [go_sem]|1,hu=>cases hu;simp [go_sem])) (by have:=HRL.out;simp;omega) (by have:=HK.out.size;simp;omega) ?_;intro v1 w2 hown2 hg2 _;have HKA:=lh (show Keep w w2 from Own.kept HO3 hg2 (HK.out.alloc _) (Nat.le_refl _));have HO4:=lh hown2;clear hown2 hg2 HO3 HO HK;go_wp2;go_roundw
     case rel=>exact ⟨k+1,v1,by omega,by go_num,rfl,(by show OwnRn _ _ _ _;rw [HS2.out];exact HO4.out),HKA.out⟩
     case measure=>simp [intOf];omega
    ·obtain ⟨q,hq⟩:∃ q,q+1=k:=⟨k-1,by omega⟩;have hq2:q<n:=by omega
     have hq3:q<a.length:=by omega
     obtain ⟨_,h1⟩:=sl_u16' (H.out.keep HK.out) q hq3;have hxb:=HB.out a[q] (List.getElem_mem _);have hgq:a.getD (k-1) 0=a[q]:=by rw [show k-1=q by omega];exact getD_at _ _ hq3
     have hxy:¬ a[k]=a[q]+1:=fun e=>hc ⟨by omega,by rw [HGK.out,hgq];exact e⟩;have e1:IntKind.i64.wrap ((k:Int)-1)=(q:Int):=by rw [IntWalk.i64_in _ ⟨by omega,by omega⟩];omega
     have e00:(0:Int)<(k:Int):=by omega
     have HYE:=lh (rfl:a[k]=a[k]);generalize a[q]=x at h1 hxb hxy hgq;generalize a[k]=y at h0 hxy hyb HS2;have e3:IntKind.u16.wrap ((x:Int)+1)=((x+1:Nat):Int):=by simp [IntKind.wrap,IntKind.signed,IntKind.bits];omega
     have e4:((y:Int)==((x+1:Nat):Int))=false:=by simp;omega
     have e5:¬ (y:Int)=((x+1:Nat):Int):=by omega
     clear HST HGK hq hc hxy hgq h00 HYE;go_wp2_with (at_builtin;refine hold ?_);refine unhold ?_;have HO3:OwnRn (wr.alloc (.cells #[.int .u16 (y:Int),.int .u16 0] 277)) w.heap.size v (Roa.runsTo a k):=HO.out.keep (Keep.alloc (Keep.refl _) _);refine wpList_app elt_rn rn_len rn_one rfl (.tmp 35) (.tmp 38) rfl (ys:=[(y,0)]) HO3 rfl rfl (sl_one _ (by omega) (by omega) (fun j u hu=>by match j,hu with|0,hu=>cases hu;simp [go_sem]|1,hu=>cases hu;simp [go_sem])) (by have:=HRL.out;simp;omega) (by have:=HK.out.size;simp;omega) ?_;intro v1 w2 hown2 hg2 _;have HKA:=lh (show Keep w w2 from Own.kept HO3 hg2 (HK.out.alloc _) (Nat.le_refl _));have HO4:=lh hown2;clear hown2 hg2 HO3 HO HK;go_wp2;go_roundw
     case rel=>exact ⟨k+1,v1,by omega,by go_num,rfl,(by show OwnRn _ _ _ _;rw [HS2.out];exact HO4.out),HKA.out⟩
     case measure=>simp [intOf];omega
  ·have hkn:k=n:=by omega
   subst hkn;have HNN:=HN.out;go_wp2;exact bodyPost_ret (v:=v) (by simp [results,Tryz.results248,go_sem]) rfl ⟨_,rfl,HO.out,HK.out⟩
theorem rend_any(p:Pr)(w:World)(hb:p.1+p.2+1≤65536):Calls Tryz.prog 275 #[.agg #[.int .u16 (p.1:Int),.int .u16 (p.2:Int)]] w fun e w'=>e=.returned (.int .i64 ((p.1+p.2+1:Nat):Int))∧Keep w w':=by
 obtain ⟨x,y⟩:=p;simp only at hb ⊢;have e1:IntKind.i64.wrap ((x:Int)+(y:Int))=((x+y:Nat):Int):=by rw [IntWalk.i64_in _ ⟨by omega,by omega⟩];omega
 have e2:IntKind.i64.wrap (((x+y:Nat):Int)+1)=((x+y+1:Nat):Int):=by rw [IntWalk.i64_in _ ⟨by omega,by omega⟩];omega
 go_enter Tryz.func275,Tryz.ntmps275;go_wp2;go_ret;exact ⟨ret_int (by omega),(by repeat first|exact kp0|apply kp1|apply kp2|apply kp3|apply kp4)⟩
theorem rlen_any(A:Option Addr)(c:Nat)(r:List Pr)(w:World)(h:Sl w 2 rnV A c r)(hb:∀ p∈r,p.1+p.2+1≤64)(hl:r.length≤65536) :
 Calls Tryz.prog 246 #[.slice A r.length c] w fun e w'=>e=.returned (.int .i64 (((r.map fun p=>p.2+1).sum:Nat):Int))∧Keep w w':=by
 have H:=lh h;have HB:=lh hb;generalize hn:r.length=n at hl;have HN:=lh hn;clear h hb hn;go_enter Tryz.func246,Tryz.ntmps246;go_wp2;go_loopw [3,8] (fun vs vi wr=>∃ k m:Nat,k≤n∧vi=.int .i64 k∧vs=.int .i64 m∧m≤k*64∧Hid (m=((r.take k).map fun p=>p.2+1).sum)∧Hid (Keep w wr)) (fun _ vi _=>n-(intOf vi).toNat)
 case atStart=>exact ⟨0,0,Nat.zero_le _,rfl,rfl,by omega,rfl,Keep.refl _⟩
 case round =>
  obtain ⟨k,m,hk,rfl,rfl,hm,HM,HK⟩:=hrel
  by_cases hlt:k<n
  ·have hkn:k<r.length:=by rw [HN.out];exact hlt
   obtain ⟨b,off,hA,hbb,h0,h1⟩:=sl_rn (H.out.keep HK.out) k hkn;subst hA;have hpb:=HB.out r[k] (List.getElem_mem _);have HS:=lh (show ((r.take (k+1)).map fun p=>p.2+1).sum=m+(r[k].2+1) by rw [List.take_succ_eq_append_getElem hkn,List.map_append,List.sum_append,← HM.out];simp);generalize r[k]=p at h0 h1 hpb HS;obtain ⟨x,y⟩:=p;simp only at h0 h1 hpb HS;have e1:IntKind.i64.wrap ((y:Int)+1)=((y+1:Nat):Int):=by rw [IntWalk.i64_in _ ⟨by omega,by omega⟩];omega
   have e2:IntKind.i64.wrap ((m:Int)+((y+1:Nat):Int))=((m+(y+1):Nat):Int):=by rw [IntWalk.i64_in _ ⟨by omega,by omega⟩];omega
   go_wp2;go_roundw
   case rel=>exact ⟨k+1,m+(y+1),by omega,by go_num,by go_num,by omega,HS.out.symm,HK.out.trans (by repeat first|exact kp0|apply kp1|apply kp2|apply kp3|apply kp4)⟩
   case measure=>simp [intOf];omega
  ·have hkn:k=n:=by omega
   subst hkn;rw [← HN.out,List.take_length] at HM;go_wp2;go_ret;exact ⟨ret_int (by rw [HM.out]),HK.out⟩
theorem listR_take(r:List Pr)(k:Nat)(h:k<r.length):Roa.listR (r.take (k+1))=Roa.listR (r.take k)++List.range' r[k].1 (r[k].2+1):=by
 unfold Roa.listR;rw [List.take_succ_eq_append_getElem h,List.flatMap_append];simp
theorem range_more(x i:Nat):List.range' x (i+1)=List.range' x i++[x+i]:=by
 rw [List.range'_concat];simp
theorem rlist_any(A:Option Addr)(c:Nat)(r:List Pr)(w:World)(h:Sl w 2 rnV A c r)(hb:∀ p∈r,p.1+p.2+1≤64)(hl:r.length≤65536) :
 Calls Tryz.prog 253 #[.slice A r.length c] w fun e w'=>∃ v,e=.returned v∧OwnU16 w' w.heap.size v (Roa.listR r)∧Keep w w':=by
 have H:=lh h;have HB:=lh hb;generalize hn:r.length=n at hl;have HN:=lh hn;clear h hb hn;go_enter Tryz.func253,Tryz.ntmps253;go_wp2;go_loopw [3,9] (fun vl vi wr=>∃ (k:Nat) (v:Value),k≤n∧vi=.int .i64 k∧v=vl∧Hid (OwnU16 wr w.heap.size v (Roa.listR (r.take k)))∧Hid (Keep w wr)) (fun _ vi _=>n-(intOf vi).toNat)
 case atStart=>exact ⟨0,.slice none 0 0,Nat.zero_le _,rfl,rfl,Own.nil_ _ _ _ _ _,Keep.refl _⟩
 case round =>
  obtain ⟨k,v,hk,rfl,rfl,HO,HK⟩:=hrel
  by_cases hlt:k<n
  ·have hkn:k<r.length:=by rw [HN.out];exact hlt
   obtain ⟨b,off,hA,hbb,h0,h1⟩:=sl_rn (H.out.keep HK.out) k hkn;subst hA;have hpb:=HB.out r[k] (List.getElem_mem _);have HS:=lh (listR_take r k hkn);have HLE:=lh (show (Roa.listR (r.take k)).length≤k*64 by
    rw [Roa.listR_len];have:=Roa.sum_le_mul (r.take k) (B:=64) (fun p hp=>by have:=HB.out p (List.mem_of_mem_take hp);omega);rw [List.length_take] at this;exact Nat.le_trans this (Nat.mul_le_mul_right _ (by omega)))
   generalize r[k]=p at h0 h1 hpb HS;obtain ⟨x,y⟩:=p;simp only at h0 h1 hpb HS;generalize Roa.listR (r.take k)=L0 at HO HS HLE;have HE:=lh (fun W=>rend_any (x,y) W (by simp only;omega));simp only at HE;obtain ⟨t,ht⟩:∃ t,t=x+y+1:=⟨_,rfl⟩;rw [← ht] at HE;have htb:t≤64:=by omega
   have HT:=lh ht;have HZ:=lh HO.out;have hyb:y<64:=by omega
   have hxb:x<64:=by omega
   clear hpb ht;go_upto_region 5 with fail;have hRB:Row (wr.alloc (.cells #[.int .u16 (x:Int),.int .u16 (y:Int)] 277)) wr.heap.size 277 [.int .u16 (x:Int),.int .u16 (y:Int)]:=row_alloc _ _ _;have hKB:Keep w (wr.alloc (.cells #[.int .u16 (x:Int),.int .u16 (y:Int)] 277)):=HK.out.alloc _;have hOB:OwnU16 (wr.alloc (.cells #[.int .u16 (x:Int),.int .u16 (y:Int)] 277)) w.heap.size v L0:=HZ.out.keep (Keep.alloc (Keep.refl _) _);have hgb:w.heap.size≤wr.heap.size:=HK.out.size;generalize wr.alloc (.cells #[.int .u16 (x:Int),.int .u16 (y:Int)] 277)=wb at hRB hKB hOB ⊢;generalize wr.heap.size=g at hRB hgb ⊢;have HRB:=lh hRB;have HKB:=lh hKB;have HOB:=lh hOB;have HGB:=lh hgb;have x0:=hRB.cell 0 _ rfl;have hgs:=hRB.lt;clear hRB hKB hOB hgb HZ HO HK h0 h1 hbb;go_wp2;go_loopw [3,6] (fun vl vi wq=>∃ (i:Nat) (u:Value),i≤y+1∧vi=.int .i64 ((x+i:Nat):Int)∧u=vl∧Hid (OwnU16 wq w.heap.size u (L0++List.range' x i))∧Hid (Keep w wq)∧Hid (Row wq g 277 [.int .u16 (x:Int),.int .u16 (y:Int)])) (fun _ vi _=>x+y+1-(intOf vi).toNat)
   case atStart=>exact ⟨0,v,Nat.zero_le _,by go_num,rfl,by show OwnU16 _ _ _ _;rw [List.range'_zero,List.append_nil];exact HOB.out,HKB.out,HRB.out⟩
   case round =>
    clear HOB HKB HRB x0 hgs;obtain ⟨i,u,hi,rfl,rfl,HO,HK,HR⟩:=hrel;have x0:=HR.out.cell 0 _ rfl;have x1:=HR.out.cell 1 _ rfl;have hgs:=HR.out.lt;have hmn:min (t:Int) 65536=(t:Int):=by omega
    by_cases hlt2:i<y+1
    ·have hd:decide (((x+i:Nat):Int)<(t:Int))=true:=by have:=HT.out;simp;omega
     have hd2:((x+i:Nat):Int)<(t:Int):=by have:=HT.out;omega
     have HRM:=lh (range_more x i);obtain ⟨z,hz⟩:∃ z,z=x+i:=⟨_,rfl⟩;rw [← hz] at hd hd2 HRM;have HZE:=lh hz;have hzb:z<64:=by omega
     have e1:IntKind.i64.wrap ((z:Int)+1)=((z+1:Nat):Int):=by rw [IntWalk.i64_in _ ⟨by omega,by omega⟩];omega
     have e2:IntKind.u16.wrap (z:Int)=(z:Int):=by simp [IntKind.wrap,IntKind.signed,IntKind.bits];omega
     rw [← hz];clear hz;go_wp2_with (go_at_call 275;refine hold ?_);refine unhold ?_;refine (HE.out _).mono ?_;rintro e w4 ⟨rfl,hk4⟩;have HK4:=lh (HK.out.trans hk4);have HR4:=lh (HR.out.keep hk4);have HO4:=lh (HO.out.keep hk4);clear hk4 HK HR HO x0 x1 hgs;go_wp2_with (at_builtin;refine hold ?_);refine unhold ?_;have HO5:OwnU16 (w4.alloc (.cells #[.int .u16 (z:Int)] 126)) w.heap.size u (L0++List.range' x i):=HO4.out.keep (Keep.alloc (Keep.refl _) _);refine wpList_app elt_u16 u16_len u16_one rfl (.tmp 23) (.tmp 26) rfl (ys:=[z]) HO5 rfl rfl (sl_one _ (by omega) (by omega) (fun j q hq=>by match j,hq with|0,hq=>cases hq;simp [go_sem])) (by have:=HLE.out;simp;omega) (by have:=HK4.out.size;simp;omega) ?_;intro v1 w5 hown5 hg5 _;have HR5:=lh (row_grown (HR4.out.keep (Keep.alloc (Keep.refl _) _)) hg5 (own_row_ne HO5 (HR4.out.keep (Keep.alloc (Keep.refl _) _)) (by decide)));have HK5:=lh (show Keep w w5 from Own.kept HO5 hg5 (HK4.out.alloc _) (Nat.le_refl _));have HO6:=lh hown5;clear hown5 hg5 HO5 HO4 HK4 HR4;go_wp2;go_roundw
     case rel=>exact ⟨i+1,v1,by omega,by have:=HZE.out;go_num,rfl,(by show OwnU16 _ _ _ _;rw [HRM.out,← List.append_assoc];exact HO6.out),HK5.out,HR5.out⟩
     case measure=>have:=HZE.out;simp [intOf];omega
    ·have hi2:i=y+1:=by omega
     have hxt:((x+i:Nat):Int)=(t:Int):=by have:=HT.out;omega
     rw [hxt];have HLE2:=lh hi2;clear hi2 hxt hlt2;go_wp2_with (go_at_call 275;refine hold ?_);refine unhold ?_;refine (HE.out _).mono ?_;rintro e w4 ⟨rfl,hk4⟩;have HK4:=lh (HK.out.trans hk4);have HO4:=lh (HO.out.keep hk4);clear hk4 HK HR HO x0 x1 hgs;go_wp2;go_roundw
     case rel=>exact ⟨k+1,u,by omega,by go_num,rfl,(by show OwnU16 _ _ _ _;rw [HS.out,← HLE2.out];exact HO4.out),HK4.out⟩
     case measure=>simp [intOf];omega
  ·have hkn:k=n:=by omega
   subst hkn;rw [← HN.out,List.take_length] at HO;go_wp2;exact bodyPost_ret (v:=v) (by simp [results,Tryz.results253,go_sem]) rfl ⟨_,rfl,HO.out,HK.out⟩
end Go.Proofs.YtpkocnpamcchcaaGreatDoor
