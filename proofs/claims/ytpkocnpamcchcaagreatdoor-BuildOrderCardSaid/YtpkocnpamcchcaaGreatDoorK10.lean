/- Parts of the proof. -/
import Derived.Lib.SlBytesConst
import Derived.Test.YtpkocnpamcchcaaGreatDoorK08
import Derived.Test.YtpkocnpamcchcaaGreatDoorK09
set_option maxRecDepth 100000
set_option maxHeartbeats 4000000
set_option linter.unusedSimpArgs false
set_option linter.unusedVariables false
set_option linter.unnecessarySimpa false
namespace Go.Proofs.YtpkocnpamcchcaaGreatDoor
open Go.RowKit Go.Zone Go.Shelf
attribute [local go_sem] zone stepZ fill lookFs goes goesUpon dropFs cell_gro frozen_gro size_gro lt_add drew_gro tape_gro keep_refl
attribute [local go_sem] lt_add2 lt_add3 lt_add4 lt_add5 lt_add6 lt_add7 lt_add8 lt_add9 lt_add10 lt_add11 lt_add12
def secB(s:Sec):List UInt8:=[UInt8.ofNat s.name.size]++s.name.data.toList++frameB s.bs
def imageB(l:List Sec):List UInt8:=[73,83,71,76]++le l.length 2++l.flatMap secB
theorem secB_len{s:Sec}(h:s.name.size≤20):(secB s).length≤s.bs.length+29:=by
 have hs:s.name.data.toList.length=s.name.size:=by rw [Lib.size_eq]
 simp only [secB,List.length_append,frameB_len,List.length_singleton];omega
theorem secs_len(l:List Sec)(h:∀ s∈l,s.name.size≤20∧s.bs.length≤1073741824):(l.flatMap secB).length≤l.length*1073741853:=by
 induction l with
 | nil=>simp
 | cons s r ih =>
   have h1:=ih fun y hy=>h y (by simp [hy]);have h2:=h s (by simp);have h3:=secB_len h2.1;simp only [List.flatMap_cons,List.length_append,List.length_cons,Nat.add_mul];omega
theorem SecsP.at_{l:List Sec}(h:SecsP l):∀ s∈l,s.name.size≤20∧s.bs.length≤1073741824:=fun s hs=>by
 obtain ⟨i,hi,rfl⟩:=List.getElem_of_mem hs;exact ⟨(h.name i hi).hi,h.small i hi⟩
theorem write_any(A:Option Addr)(c:Nat)(l:List Sec)(w:World)(h:Sl w 2 Sec.cells A c l)(hs:SecsAt w l)(hp:SecsP l) :
 Calls Tryz.prog 38 #[.slice A l.length c] w fun e w'=>∃ v,e=.returned (.tuple #[v,.int .i64 0])∧OwnB w' w.heap.size v (imageB l)∧Keep w w':=by
 have hl:=sl_len h;have H:=lh h;have HS:=lh hs;have HP:=lh hp;have hf:=hp.few;have HM:=lh (fun W (hW:Keep w W)=>secmay_any A c l W (h.keep hW) hp);clear h hs hp;have kc:=fun (w:World) (C:Array Value) (n c:Nat)=>Lib.run_convert_bytes_const (P:=Tryz.prog) w 31 5 C n c Tryz.underlying31 Tryz.underlying5;go_enter Tryz.func38,Tryz.ntmps38;go_wp2_with (go_at_call 88;refine hold ?_);refine unhold ?_;refine (HM.out _ (by repeat first|exact kp0|apply kp1|apply kp2|apply kp3|apply kp4)).mono ?_;rintro e w1 ⟨rfl,hk1⟩;have HK1:=lh hk1;clear hk1 HM;go_wp2_with (go_at_call 64;refine hold ?_);refine unhold ?_;have hs4:SlB (w1.alloc (.cells #[.int .u8 73,.int .u8 83,.int .u8 71,.int .u8 76] 5 (4,5))) (some ⟨w1.heap.size,0,none⟩) 4 [73,83,71,76]:=by
  refine ⟨by decide,by decide,by decide,fun i hi=>⟨w1.heap.size,0,rfl,fun j u hu=>?_⟩⟩
  match i,hi,j,hu with
  | 0,_,0,hu=>cases hu;exact (cell_of_row _ _ _ _ _ _ (heap_alloc_new _ _)).trans rfl
  | 1,_,0,hu=>cases hu;exact (cell_of_row _ _ _ _ _ _ (heap_alloc_new _ _)).trans rfl
  | 2,_,0,hu=>cases hu;exact (cell_of_row _ _ _ _ _ _ (heap_alloc_new _ _)).trans rfl
  | 3,_,0,hu=>cases hu;exact (cell_of_row _ _ _ _ _ _ (heap_alloc_new _ _)).trans rfl
 refine (app16_any _ 4 [73,83,71,76] l.length (by omega) _ hs4 (by decide)).mono ?_;rintro e w2 ⟨v2,rfl,hown2,hk2⟩;have HK2:=lh (HK1.out.trans (Keep.trans (Keep.alloc (Keep.refl _) _) hk2));have HO2:=lh (hown2.base_mono (by simp;exact Nat.le_succ_of_le HK1.out.size):OwnB w2 w.heap.size v2 _);clear hs4 hown2 hk2 kc HK1;go_wp2;go_loopw [5,21] (fun v i wr=>∃ (k:Nat) (o:Value) (pre:List UInt8),k≤l.length∧i=.int .i64 k∧o=v∧Hid (OwnB wr w.heap.size o pre)∧Hid (pre=[73,83,71,76]++le l.length 2++(l.take k).flatMap secB)∧pre.length≤6+k*1073741853∧Hid (Keep w wr)) (fun _ i _=>l.length-(intOf i).toNat)
 case atStart=>exact ⟨0,_,_,Nat.zero_le _,rfl,rfl,HO2.out,(by show _=_;simp),by simp [le_len],HK2.out⟩
 case round =>
  clear HO2 HK2;obtain ⟨k,o,pre,hk,rfl,rfl,HO,HPR,hpl,HK⟩:=hrel
  by_cases hlt:k<l.length
  ·obtain ⟨b,off,hA,hb,h0,h1⟩:=sl_sec (H.out.keep HK.out) k hlt;have hz:=HP.out.at_ l[k] (List.getElem_mem hlt);obtain ⟨hz1,hz2⟩:=hz;have HSB:=lh (HS.out l[k] (List.getElem_mem hlt));subst hA;have HT:=lh (show (l.take (k+1)).flatMap secB=(l.take k).flatMap secB++secB l[k] by rw [List.take_succ_eq_append_getElem hlt,List.flatMap_append];simp);generalize l[k]=s at h0 h1 hz1 hz2 HSB HT;obtain ⟨nm,sA,sc,sb⟩:=s;simp only at h0 h1 hz1 hz2 HSB HT;have HSZ:=lh (show nm.data.toList.length=nm.size by rw [Lib.size_eq]);have hke:Hid (Keep wr ((wr.alloc (.cells #[.string nm,.slice sA sb.length sc] 68)).alloc (.cells #[.int .u8 (nm.size:Int)] 5))):=(by repeat first|exact kp0|apply kp1|apply kp2|apply kp3|apply kp4);go_wp2_with (at_builtin;refine hold ?_);refine unhold ?_;have HO3:OwnB ((wr.alloc (.cells #[.string nm,.slice sA sb.length sc] 68)).alloc (.cells #[.int .u8 (nm.size:Int)] 5)) w.heap.size o pre:=HO.out.keep hke.out;have hwz:=HK.out.size;refine wpList_app elt_u8 b8_len b8_one rfl (.tmp 25) (.tmp 30) rfl (ys:=[UInt8.ofNat nm.size]) HO3 rfl rfl (sl_one _ (by omega) (by omega) (b8_at _ (by rw [u8_nat,show (nm.size:Int)%256=nm.size by omega];simp [go_sem]))) (by simp;omega) (by simp;omega) ?_;intro v3 w3 hown3 hg3 hd3;have ⟨a1,a2,_⟩:=HO3.after (w:=w) hg3 (HK.out.trans hke.out) (Nat.le_refl _);have hol:=HO.out.lt;have hne:v3.ownBlock≠some wr.heap.size:=by
    rcases hd3 with e|e
    ·rw [e];intro e2;have:=(hol _ e2).2;omega
    ·rw [e];simp;omega
   have c0:w3.cell? ⟨wr.heap.size,0,none⟩=some (.string nm):=hg3.cell (by simp [go_sem]) fun hj=>by have:=(hol _ hj.symm).2;simp at this
   have c1:w3.cell? ⟨wr.heap.size,1,none⟩=some (.slice sA sb.length sc):=hg3.cell (by simp [go_sem]) fun hj=>by have:=(hol _ hj.symm).2;simp at this
   have hb3:wr.heap.size<w3.heap.size:=block_lt_of_cell c0;have HA3:=lh a1;have HO4:=lh hown3;have HC1:=lh c1;have HNE:=lh hne;clear hown3 hg3 hd3 a1 a2 HO3 hol hne c1 h0 h1;go_wp2_with (at_builtin;refine hold ?_);refine unhold ?_;refine wpList_appS rfl (.tmp 32) (.tmp 34) rfl rfl HO4.out nm rfl (by simp;omega) HA3.out.size ?_;intro v4 w4 hown4 hg4;have ⟨a1,a2,_⟩:=HO4.out.after (w:=w) hg4 HA3.out (Nat.le_refl _);have c1:=hg4.cell HC1.out fun hj=>HNE.out hj.symm;have hb4:wr.heap.size<w4.heap.size:=block_lt_of_cell c1;have HA4:=lh a1;have HO5:=lh hown4;clear hown4 hg4 a1 a2 HO4 HC1 HNE c0;have HFR:=lh (frame_any sA sc sb w4 (HSB.out.keep HA4.out) hz2);go_wp2_with (go_at_call 89;refine hold ?_);refine unhold ?_;refine HFR.out.mono ?_;rintro e w5 ⟨v5,rfl,hown5,hk5⟩;obtain ⟨L,A5,c5,rfl,HS5,_,HL5⟩:=ownB_open hown5 (by rw [frameB_len];omega);have HLL:=lh (show L.length=sb.length+8 by rw [HL5.out,frameB_len]);have HO6:=lh (HO5.out.keep hk5);have HA5:=lh (HA4.out.trans hk5);clear hown5 hk5 HO5 HFR c1;go_wp2_with (at_builtin;refine hold ?_);refine unhold ?_;refine wpList_app elt_u8 b8_len b8_one rfl (.tmp 36) (.tmp 39) rfl (ys:=L) HO6.out rfl rfl HS5.out (by have:=HLL.out;have:=HSZ.out;simp only [List.length_append,List.length_singleton];omega) HA5.out.size ?_;intro v6 w6 hown6 hg6 _;have ⟨a1,a2,_⟩:=HO6.out.after (w:=w) hg6 HA5.out (Nat.le_refl _);have HO7:=lh hown6;have HA6:=lh a1;clear hown6 hg6 a1 a2 HO6;go_wp2;go_roundw
   case rel=>exact ⟨k+1,_,_,by omega,by go_num,rfl,HO7.out,(by
    show _=_;rw [HT.out,HPR.out,HL5.out];simp [secB]),(by
    have:=HLL.out;have:=HSZ.out;simp only [List.length_append,List.length_singleton];omega),HA6.out⟩
   case measure=>simp [intOf];omega
  ·have hkl:k=l.length:=by omega
   subst hkl;rw [List.take_length] at HPR;go_wp2;exact bodyPost_ret (v:=.tuple #[o,.int .i64 0]) (by simp [results,Tryz.results38,go_sem]) rfl ⟨o,rfl,by have:=HO.out;rw [HPR.out] at this;exact this,HK.out⟩
theorem slB_two{w:World}{g c:Nat}{x y:UInt8}(h0:w.cell? ⟨g,0,none⟩=some (.int .u8 (x.toNat:Int)))(h1:w.cell? ⟨g,1,none⟩=some (.int .u8 (y.toNat:Int)))(hc:2≤c:=by decide)(hc2:c≤9223372036854775807:=by decide):SlB w (some ⟨g,0,none⟩) c [x,y] :=
 ⟨hc,hc2,by simp,fun i hi=>⟨g,0,rfl,fun j u hu=>by
  match i,hi,j,hu with
  | 0,_,0,hu=>cases hu;exact h0
  | 1,_,0,hu=>cases hu;exact h1⟩⟩
def colB(c:Col):List UInt8:=[UInt8.ofNat c.kind.toNat,UInt8.ofNat c.name.size]++c.name.data.toList
def flagB(c:Cfg)(i:Nat):List UInt8:=[UInt8.ofNat ((if hasP c.inv (i:Int) then 1 else 0)+(if hasP c.rng (i:Int) then 2 else 0))]
def schB(cs:List Col)(c:Cfg):List UInt8:=le cs.length 2++cs.flatMap colB++le (c.sort+1).toNat 2++(List.range cs.length).flatMap (flagB c)++[UInt8.ofNat c.split.length]++c.split.flatMap (fun x=>le x.toNat 2)++le c.leaf.toNat 4
theorem dim_rng{l:List Col}{i:Int}(h:dimP l i=true):0≤i∧i<l.length:=by
 cases i with
 | ofNat k =>
   by_cases hk:k<l.length
   ·exact ⟨by simp,by simp;omega⟩
   ·simp [dimP,hk] at h
 | negSucc k=>simp [dimP] at h
theorem sort_rng{l:List Col}{c:Cfg}(h:Fits l c): -1≤c.sort∧c.sort<256:=by
 have h1:=h.sort;have h2:=h.may.hi
 rcases h1 with h1|h1
 ·omega
 ·have:=dim_rng h1;omega
theorem box_cell{wb wr:World}{g j:Nat}{u:Value}(hk:Keep wb wr)(hg:g<wb.heap.size)(h:wb.cell? ⟨g,j,none⟩=some u):wr.cell? ⟨g,j,none⟩=some u:=(hk.cell (p:=⟨g,j,none⟩) hg).trans h
theorem sbytes_any(A:Option Addr)(n:Nat)(cs:List Col)(c:Cfg)(w:World)(h:Sl w 2 Col.cells A n cs)(hz:∀ x∈cs,x.name.size≤140737488355328)(hc:CfgAt w c)(hf:Fits cs c) :
 Calls Tryz.prog 29 #[.slice A cs.length n,c.v] w fun e w'=>∃ v,e=.returned (.tuple #[v,.int .i64 0])∧OwnB w' w.heap.size v (schB cs c)∧Keep w w':=by
 have HF:=lh (fun W (hW:Keep w W)=>fits_any A n cs c W (h.keep hW) hz (hc.keep hW));have hq:=pB_yes hf;have hsr:=sort_rng hf;obtain ⟨s0,iA,ic,iv,rA,rc,rv,sA,sc,sp,lf⟩:=c;simp only at hsr;obtain ⟨hs0,hs1⟩:=hsr;have hl:=sl_len h;have hl3:=sl_len hc.i;have hl4:=sl_len hc.r;have hc256:cs.length≤256:=hf.may.hi;have hs8:sp.length≤8:=hf.few;have hf1:1≤lf:=hf.lo;have hf2:lf≤1000000:=hf.hi;have H:=lh h;have HMY:=lh hf.may;have HSP:=lh (show ∀ j,(h:j<sp.length)→0≤sp[j]∧sp[j]<256 from fun j hj=>by have:=dim_rng (hf.split j hj);simp only at this;omega);have HV1:=lh (fun W (hW:Keep w W) (i:Int)=>has_any iA ic iv i W (hc.i.keep hW));have HV2:=lh (fun W (hW:Keep w W) (i:Int)=>has_any rA rc rv i W (hc.r.keep hW));have HS:=lh hc.s;simp only [Cfg.v];clear h hf hc hz;go_enter Tryz.func29,Tryz.ntmps29;go_upto_region 1 with fail;have hB:BoxA w (w.alloc (.cells #[.int .i64 s0,.slice iA iv.length ic,.slice rA rv.length rc,.slice sA sp.length sc,.int .i64 lf] 26)) [.int .i64 s0,.slice iA iv.length ic,.slice rA rv.length rc,.slice sA sp.length sc,.int .i64 lf]:=BoxA.start (t:=26) (Keep.refl _);generalize hwb:World.alloc w _=wb at hB ⊢;have hbs:=hB.lt;have x0:=hB.at_ 0 _ rfl;have x1:=hB.at_ 1 _ rfl;have x2:=hB.at_ 2 _ rfl;have x3:=hB.at_ 3 _ rfl;have x4:=hB.at_ 4 _ rfl;have HKB:=lh hB.keep;have HX0:=lh x0;have HX1:=lh x1;have HX2:=lh x2;have HX3:=lh x3;have HX4:=lh x4;clear hwb hB;generalize w.heap.size=g0 at hbs x0 x1 x2 x3 x4 HX0 HX1 HX2 HX3 HX4 ⊢;go_wp2_with (go_at_call 55;refine hold ?_)
 refine unhold ?_;refine (HF.out _ HKB.out).mono ?_;rintro e w0 ⟨rfl,hk0⟩;have HK0:=lh hk0;clear x0 x1 x2 x3 x4 HF hk0;go_wp2_with (go_at_call 64;refine hold ?_);refine unhold ?_;refine (app16_any none 0 [] cs.length (by omega) _ (Sl.nil_ _ (by decide)) (by simp)).mono ?_;rintro e w1 ⟨v1,rfl,hown1,hk1⟩;have HO1:=lh (hown1.base_mono HK0.out.size);have HK1:=lh (HK0.out.trans hk1);clear hown1 hk1 HK0 hq;go_wp2;go_loopw [6,23] (fun v i wr=>∃ (k:Nat) (o:Value) (pre:List UInt8),k≤cs.length∧i=.int .i64 k∧o=v∧Hid (OwnB wr wb.heap.size o pre)∧Hid (pre=le cs.length 2++(cs.take k).flatMap colB)∧pre.length≤2+k*66∧Hid (Keep wb wr)) (fun _ i _=>cs.length-(intOf i).toNat)
 case atStart=>exact ⟨0,_,_,Nat.zero_le _,rfl,rfl,HO1.out,(by show _=_;simp),by simp [le_len],HK1.out⟩
 case round =>
  clear HO1 HK1;obtain ⟨k,o,pre,hk,rfl,rfl,HO,HPR,hpl,HK⟩:=hrel
  by_cases hlt:k<cs.length
  ·obtain ⟨b,off,hA,hb,h0,h1⟩:=sl_col (H.out.keep (HKB.out.trans HK.out)) k hlt;have hn2:=(HMY.out.name k hlt).hi;have hk1:=(HMY.out.kind k hlt).1;have hk2:=(HMY.out.kind k hlt).2;have HT:=lh (show (cs.take (k+1)).flatMap colB=(cs.take k).flatMap colB++colB cs[k] by rw [List.take_succ_eq_append_getElem hlt,List.flatMap_append];simp);subst hA;generalize cs[k]=s at h0 h1 hn2 hk1 hk2 HT;obtain ⟨nm,kd⟩:=s;simp only at h0 h1 hn2 hk1 hk2 HT;have HSZ:=lh (show nm.data.toList.length=nm.size by rw [Lib.size_eq]);go_upto_region 7 with fail;have hka:Keep wr (wr.alloc (.cells #[.string nm,.int .u8 kd] 53)):=(by repeat first|exact kp0|apply kp1|apply kp2|apply kp3|apply kp4);have c0:(wr.alloc (.cells #[.string nm,.int .u8 kd] 53)).cell? ⟨wr.heap.size,0,none⟩=some (.string nm):=by simp [go_sem]
   have c1:(wr.alloc (.cells #[.string nm,.int .u8 kd] 53)).cell? ⟨wr.heap.size,1,none⟩=some (.int .u8 kd):=by simp [go_sem]
   have hol:=HO.out.lt;have hne:o.ownBlock≠some wr.heap.size:=fun e=>by have:=(hol _ e).2;omega
   have HOA:=lh (HO.out.keep hka);have HKA:=lh (HK.out.trans hka);generalize hwa:World.alloc wr _=wa at hka c0 c1 HOA HKA ⊢;generalize wr.heap.size=g at c0 c1 hne ⊢;have hgl:=block_lt_of_cell c0;have HNE:=lh hne;have hza:=HKA.out.size;clear hwa hka hol hne HO HK h0 h1 hb;have hw8:IntKind.u8.wrap (nm.size:Int)=(nm.size:Int):=by simp [IntKind.wrap,IntKind.signed,IntKind.bits];omega
   go_region_law (first
    | (refine step_app elt_u8 b8_len b8_one rfl (.tmp 27) (.tmp 34) rfl (ys:=[UInt8.ofNat kd.toNat,UInt8.ofNat nm.size]) (HOA.out.keep (by repeat first|exact kp0|apply kp1|apply kp2|apply kp3|apply kp4)) rfl rfl (slB_two (x:=UInt8.ofNat kd.toNat) (y:=UInt8.ofNat nm.size) ?h0 ?h1) (by simp;omega) (by simp;omega) ?_
       case h0=>rw [u8_nat,show ((kd.toNat:Nat):Int)%256=kd by omega];simp [go_sem]
       case h1=>rw [u8_nat,show (nm.size:Int)%256=(nm.size:Int) by omega];simp [go_sem]
       intro v3 w3 hown3 hg3 hd3;have c3:w3.cell? ⟨g,0,none⟩=some (.string nm):=hg3.cell (by simp [go_sem,c0,hgl]) fun hj=>HNE.out hj.symm;have hgl3:g<w3.heap.size:=block_lt_of_cell c3;have HA3:=lh ((HOA.out.keep (by repeat first|exact kp0|apply kp1|apply kp2|apply kp3|apply kp4)).kept (w:=wb) hg3 (HKA.out.trans (by repeat first|exact kp0|apply kp1|apply kp2|apply kp3|apply kp4)) (Nat.le_refl _));have HO3:=lh hown3;clear hown3 hg3 hd3)
    | (refine step_appS rfl (.tmp 35) (.tmp 37) rfl rfl HO3.out nm rfl (by simp;omega) HA3.out.size ?_
       intro v4 w4 hown4 hg4;have HA4:=lh (HO3.out.kept (w:=wb) hg4 HA3.out (Nat.le_refl _));have HO4:=lh hown4;clear hown4 hg4))
   all_goals
    go_wp2;go_roundw
    case rel=>exact ⟨k+1,_,_,by omega,by go_num,rfl,HO4.out,(by
     show _=_;rw [HT.out,HPR.out];simp [colB]),(by
     have:=HSZ.out;simp only [List.length_append,List.length_cons,List.length_nil];omega),HA4.out⟩
    case measure=>simp [intOf];omega
  ·have hkl:k=cs.length:=by omega
   subst hkl;rw [List.take_length] at HPR;have y0:=box_cell HK.out hbs HX0.out;have hgw:g0<wr.heap.size:=block_lt_of_cell y0;have hpl2:pre.length≤20000:=by omega
   obtain ⟨Lp,Ap,cp,rfl,HSp,_,HLp⟩:=ownB_open HO.out (by omega);have hlp:Lp.length≤20000:=by rw [HLp.out];exact hpl2
   obtain ⟨m1,hm1⟩:∃ m1:Nat,s0+1=(m1:Int):=⟨(s0+1).toNat,by omega⟩;have HM1:=lh hm1;have hm2:m1<65536:=by omega
   clear hpl hpl2;go_wp2_with (go_at_call 64;refine hold ?_);refine unhold ?_;refine (app16_any Ap cp Lp m1 hm2 _ (HSp.out.keep (by repeat first|exact kp0|apply kp1|apply kp2|apply kp3|apply kp4)) (by omega)).mono ?_;rintro e w2 ⟨v2,rfl,hown2,hk2⟩;have HK2:=lh (HK.out.trans hk2);have HO2:=lh (hown2.base_mono HK.out.size:OwnB w2 wb.heap.size v2 _);have HP2:=lh (show Lp++le m1 2=le cs.length 2++cs.flatMap colB++le (s0+1).toNat 2 by
    rw [HLp.out,HPR.out]
    congr 2
    have:=HM1.out;omega)
   have hl2:(Lp++le m1 2).length≤20002:=by simp [le_len];omega
   generalize Lp++le m1 2=P2 at HO2 HP2 hl2;clear hown2 hk2 HO HPR HSp HLp y0 hgw hm1;go_wp2;go_loopw [6,48] (fun v i wr=>∃ (k:Nat) (o:Value) (pre:List UInt8),k≤cs.length∧i=.int .i64 k∧o=v∧Hid (OwnB wr wb.heap.size o pre)∧Hid (pre=P2++(List.range k).flatMap (flagB ⟨s0,iA,ic,iv,rA,rc,rv,sA,sc,sp,lf⟩))∧pre.length≤20002+k∧Hid (Keep wb wr)) (fun _ i _=>cs.length-(intOf i).toNat)
   case atStart=>exact ⟨0,_,_,Nat.zero_le _,rfl,rfl,HO2.out,(by show _=_;simp),by omega,HK2.out⟩
   case round =>
    clear HO2 HK2 hlt hk HK;obtain ⟨k,o,pre,hk,rfl,rfl,HO,HPR,hpl,HK⟩:=hrel;have y1:=box_cell HK.out hbs HX1.out;have y2:=box_cell HK.out hbs HX2.out;have hgw:g0<wr.heap.size:=block_lt_of_cell y1
    by_cases hlt:k<cs.length
    ·have HRK:=lh (show (List.range (k+1)).flatMap (flagB ⟨s0,iA,ic,iv,rA,rc,rv,sA,sc,sp,lf⟩)=(List.range k).flatMap (flagB ⟨s0,iA,ic,iv,rA,rc,rv,sA,sc,sp,lf⟩)++flagB ⟨s0,iA,ic,iv,rA,rc,rv,sA,sc,sp,lf⟩ k by rw [List.range_succ,List.flatMap_append];simp)
     cases e1:hasP iv (k:Int)
     all_goals cases e2:hasP rv (k:Int)
     all_goals
      have E:=lh (And.intro e1 e2);go_wp2_with (go_at_call 56;refine hold ?_);refine unhold ?_;with_reducible refine (HV1.out _ (HKB.out.trans HK.out) _).mono ?_;rintro e w3 ⟨rfl,hk3⟩;have HK3:=lh (HK.out.trans hk3);have HO3:=lh (HO.out.keep hk3);have z2:=box_cell HK3.out hbs HX2.out;have hgw3:g0<w3.heap.size:=block_lt_of_cell z2;clear y1 y2 hk3 HO HK;go_wp2_with (go_at_call 56;refine hold ?_);refine unhold ?_;with_reducible refine (HV2.out _ (HKB.out.trans HK3.out) _).mono ?_;rintro e w4 ⟨rfl,hk4⟩;have HK4:=lh (HK3.out.trans hk4);have HO4:=lh (HO3.out.keep hk4);clear z2 hk4 HO3 HK3 hgw3;go_wp2_with (at_builtin;refine hold ?_);refine unhold ?_
     ·have HO5:OwnB (w4.alloc (.cells #[.int .u8 0] 5)) wb.heap.size o pre:=HO4.out.keep (Keep.alloc (Keep.refl _) _);refine wpList_app elt_u8 b8_len b8_one rfl (.tmp 61) (.tmp 63) rfl (ys:=[0]) HO5 rfl rfl (sl_one _ (by omega) (by omega) (b8_at _ (by simp [go_sem]))) (by simp;omega) (by simp;exact Nat.le_succ_of_le HK4.out.size) ?_;intro v5 w5 hown5 hg5 _;have ⟨a1,a2,_⟩:=HO5.after (w:=wb) hg5 (HK4.out.trans (Keep.alloc (Keep.refl _) _)) (Nat.le_refl _);have HO6:=lh hown5;have HA5:=lh a1;clear hown5 hg5 a1 a2 HO5 HO4;go_wp2;go_roundw
      case rel=>exact ⟨k+1,_,_,by omega,by go_num,rfl,HO6.out,(by
       show _=_;rw [HRK.out,HPR.out];simp [flagB,E.out.1,E.out.2]),by simp;omega,HA5.out⟩
      case measure=>simp [intOf];omega
     ·have HO5:OwnB (w4.alloc (.cells #[.int .u8 2] 5)) wb.heap.size o pre:=HO4.out.keep (Keep.alloc (Keep.refl _) _);refine wpList_app elt_u8 b8_len b8_one rfl (.tmp 61) (.tmp 63) rfl (ys:=[2]) HO5 rfl rfl (sl_one _ (by omega) (by omega) (b8_at _ (by simp [go_sem]))) (by simp;omega) (by simp;exact Nat.le_succ_of_le HK4.out.size) ?_;intro v5 w5 hown5 hg5 _;have ⟨a1,a2,_⟩:=HO5.after (w:=wb) hg5 (HK4.out.trans (Keep.alloc (Keep.refl _) _)) (Nat.le_refl _);have HO6:=lh hown5;have HA5:=lh a1;clear hown5 hg5 a1 a2 HO5 HO4;go_wp2;go_roundw
      case rel=>exact ⟨k+1,_,_,by omega,by go_num,rfl,HO6.out,(by
       show _=_;rw [HRK.out,HPR.out];simp [flagB,E.out.1,E.out.2]),by simp;omega,HA5.out⟩
      case measure=>simp [intOf];omega
     ·have HO5:OwnB (w4.alloc (.cells #[.int .u8 1] 5)) wb.heap.size o pre:=HO4.out.keep (Keep.alloc (Keep.refl _) _);refine wpList_app elt_u8 b8_len b8_one rfl (.tmp 61) (.tmp 63) rfl (ys:=[1]) HO5 rfl rfl (sl_one _ (by omega) (by omega) (b8_at _ (by simp [go_sem]))) (by simp;omega) (by simp;exact Nat.le_succ_of_le HK4.out.size) ?_;intro v5 w5 hown5 hg5 _;have ⟨a1,a2,_⟩:=HO5.after (w:=wb) hg5 (HK4.out.trans (Keep.alloc (Keep.refl _) _)) (Nat.le_refl _);have HO6:=lh hown5;have HA5:=lh a1;clear hown5 hg5 a1 a2 HO5 HO4;go_wp2;go_roundw
      case rel=>exact ⟨k+1,_,_,by omega,by go_num,rfl,HO6.out,(by
       show _=_;rw [HRK.out,HPR.out];simp [flagB,E.out.1,E.out.2]),by simp;omega,HA5.out⟩
      case measure=>simp [intOf];omega
     ·have HO5:OwnB (w4.alloc (.cells #[.int .u8 3] 5)) wb.heap.size o pre:=HO4.out.keep (Keep.alloc (Keep.refl _) _);refine wpList_app elt_u8 b8_len b8_one rfl (.tmp 61) (.tmp 63) rfl (ys:=[3]) HO5 rfl rfl (sl_one _ (by omega) (by omega) (b8_at _ (by simp [go_sem]))) (by simp;omega) (by simp;exact Nat.le_succ_of_le HK4.out.size) ?_;intro v5 w5 hown5 hg5 _;have ⟨a1,a2,_⟩:=HO5.after (w:=wb) hg5 (HK4.out.trans (Keep.alloc (Keep.refl _) _)) (Nat.le_refl _);have HO6:=lh hown5;have HA5:=lh a1;clear hown5 hg5 a1 a2 HO5 HO4;go_wp2;go_roundw
      case rel=>exact ⟨k+1,_,_,by omega,by go_num,rfl,HO6.out,(by
       show _=_;rw [HRK.out,HPR.out];simp [flagB,E.out.1,E.out.2]),by simp;omega,HA5.out⟩
      case measure=>simp [intOf];omega
    ·have hkl:k=cs.length:=by omega
     subst hkl;have y3:=box_cell HK.out hbs HX3.out;have hsl8:IntKind.u8.wrap (sp.length:Int)=(sp.length:Int):=by simp [IntKind.wrap,IntKind.signed,IntKind.bits];omega
     clear y1 y2;go_wp2_with (at_builtin;refine hold ?_);refine unhold ?_;have HO5:OwnB (wr.alloc (.cells #[.int .u8 (sp.length:Int)] 5)) wb.heap.size o pre:=HO.out.keep (Keep.alloc (Keep.refl _) _);refine wpList_app elt_u8 b8_len b8_one rfl (.tmp 66) (.tmp 71) rfl (ys:=[UInt8.ofNat sp.length]) HO5 rfl rfl (sl_one _ (by omega) (by omega) (b8_at _ (by rw [u8_nat,show (sp.length:Int)%256=(sp.length:Int) by omega];simp [go_sem]))) (by simp;omega) (by simp;exact Nat.le_succ_of_le HK.out.size) ?_;intro v5 w5 hown5 hg5 _;have ⟨a1,a2,_⟩:=HO5.after (w:=wb) hg5 (HK.out.trans (Keep.alloc (Keep.refl _) _)) (Nat.le_refl _);have HO6:=lh hown5;have HA5:=lh a1;have HP6:=lh (show pre++[UInt8.ofNat sp.length]=P2++(List.range cs.length).flatMap (flagB ⟨s0,iA,ic,iv,rA,rc,rv,sA,sc,sp,lf⟩)++[UInt8.ofNat sp.length] by rw [HPR.out]);have hl6:(pre++[UInt8.ofNat sp.length]).length≤20300:=by simp;omega
     generalize pre++[UInt8.ofNat sp.length]=P6 at HO6 HP6 hl6;clear hown5 hg5 a1 a2 HO5 HO y3 hgw HPR hpl;have z3:=box_cell HA5.out hbs HX3.out;have hgw:g0<w5.heap.size:=block_lt_of_cell z3;go_wp2;clear z3 hgw;go_loopw [6,76] (fun v i wr=>∃ (k:Nat) (o:Value) (pre:List UInt8),k≤sp.length∧i=.int .i64 k∧o=v∧Hid (OwnB wr wb.heap.size o pre)∧Hid (pre=P6++(sp.take k).flatMap (fun x=>le x.toNat 2))∧pre.length≤20300+k*2∧Hid (Keep wb wr)) (fun _ i _=>sp.length-(intOf i).toNat)
     case atStart=>exact ⟨0,_,_,Nat.zero_le _,rfl,rfl,HO6.out,(by show _=_;simp),by omega,HA5.out⟩
     case round =>
      clear HO6 HA5 hlt hk HK;obtain ⟨k,o,pre,hk,rfl,rfl,HO,HPR,hpl,HK⟩:=hrel;obtain ⟨Lp,Ap,cp,rfl,HSp,_,HLp⟩:=ownB_open HO.out (by omega);have hlp:Lp.length≤20320:=by rw [HLp.out];omega
      by_cases hlt:k<sp.length
      ·obtain ⟨b,off,hA,hb,h0⟩:=sl_i64 (HS.out.keep (HKB.out.trans HK.out)) k hlt;obtain ⟨h1,h2⟩:=HSP.out k hlt;have HT:=lh (show (sp.take (k+1)).flatMap (fun x=>le x.toNat 2)=(sp.take k).flatMap (fun x=>le x.toNat 2)++le sp[k].toNat 2 by rw [List.take_succ_eq_append_getElem hlt,List.flatMap_append];simp);subst hA;generalize sp[k]=x at h0 h1 h2 HT;obtain ⟨y,rfl⟩:∃ y:Nat,x=(y:Int):=⟨x.toNat,by omega⟩;go_wp2_with (go_at_call 64;refine hold ?_);refine unhold ?_;refine (app16_any Ap cp Lp y (by omega) _ (HSp.out.keep (by repeat first|exact kp0|apply kp1|apply kp2|apply kp3|apply kp4)) (by omega)).mono ?_;rintro e w7 ⟨v7,rfl,hown7,hk7⟩;have HK7:=lh (HK.out.trans hk7);have HO7:=lh (hown7.base_mono HK.out.size:OwnB w7 wb.heap.size v7 _);clear hown7 hk7;go_wp2;go_roundw
       case rel=>exact ⟨k+1,_,_,by omega,by go_num,rfl,HO7.out,(by
        show _=_;rw [HLp.out,HPR.out,HT.out];simp),(by rw [HLp.out];simp [le_len];omega),HK7.out⟩
       case measure=>simp [intOf];omega
      ·have hkl:k=sp.length:=by omega
       subst hkl;rw [List.take_length] at HPR;have y4:=box_cell HK.out hbs HX4.out;have hgw:g0<wr.heap.size:=block_lt_of_cell y4;obtain ⟨y,rfl⟩:∃ y:Nat,lf=(y:Int):=⟨lf.toNat,by omega⟩;go_wp2_with (go_at_call 31;refine hold ?_);refine unhold ?_;refine (app32_any Ap cp Lp y (by omega) _ (HSp.out.keep (by repeat first|exact kp0|apply kp1|apply kp2|apply kp3|apply kp4)) (by omega)).mono ?_;rintro e w7 ⟨v7,rfl,hown7,hk7⟩;have HK7:=lh (HK.out.trans hk7);have HO7:=lh (hown7.base_mono HK.out.size:OwnB w7 wb.heap.size v7 _);clear hown7 hk7;go_wp2;exact bodyPost_ret (v:=.tuple #[v7,.int .i64 0]) (by simp [results,Tryz.results29,go_sem]) rfl ⟨v7,rfl,by
        have:=HO7.out.base_mono HKB.out.size;rw [HLp.out,HPR.out,HP6.out,HP2.out] at this
        simpa [schB] using this,HKB.out.trans HK7.out⟩
theorem fmay_zero(w:World):Calls Tryz.prog 122 #[.int .i64 0,.int .i64 0] w fun e w'=>e=.returned (.bool true)∧Keep w w':=by
 go_enter Tryz.func122,Tryz.ntmps122;go_wp2;go_ret;exact ⟨rfl,(by repeat first|exact kp0|apply kp1|apply kp2|apply kp3|apply kp4)⟩
structure IdxAt(w:World)(b rows many wd:Nat)(A:Option Addr)(c:Nat)(bs:List UInt8):Prop where
 r:w.cell? ⟨b,0,none⟩=some (.int .i64 rows)
 m:w.cell? ⟨b,1,none⟩=some (.int .i64 many)
 w_:w.cell? ⟨b,2,none⟩=some (.int .i64 wd)
 b_:w.cell? ⟨b,3,none⟩=some (.slice A bs.length c)
 sl:SlB w A c bs
theorem IdxAt.keep{w w':World}{b rows many wd c:Nat}{A:Option Addr}{bs:List UInt8}(h:IdxAt w b rows many wd A c bs)(hk:Keep w w'):IdxAt w' b rows many wd A c bs :=
 ⟨(hk.cell (p:=⟨b,0,none⟩) (block_lt_of_cell h.r)).trans h.r,(hk.cell (p:=⟨b,1,none⟩) (block_lt_of_cell h.m)).trans h.m,(hk.cell (p:=⟨b,2,none⟩) (block_lt_of_cell h.w_)).trans h.w_,(hk.cell (p:=⟨b,3,none⟩) (block_lt_of_cell h.b_)).trans h.b_,h.sl.keep hk⟩
theorem inone_any{b rows many wd c:Nat}{A:Option Addr}{bs:List UInt8}(w:World)(h:IdxAt w b rows many wd A c bs)(hw:0<wd):Calls Tryz.prog 126 #[.pointer (some ⟨b,0,none⟩)] w fun e w'=>e=.returned (.bool false)∧Keep w w':=by
 have h2:=h.w_;have hb:=block_lt_of_cell h2;have hz:((wd:Int)==0)=false:=by simp;omega
 clear h;go_enter Tryz.func126,Tryz.ntmps126;go_wp2;go_ret;exact ⟨rfl,(by repeat first|exact kp0|apply kp1|apply kp2|apply kp3|apply kp4)⟩
def PB(base:Nat)(bs:List UInt8):Zone.Pred:=fun v W=>∃ A c,v=.slice A bs.length c∧OwnB W base (.slice A bs.length c) bs
theorem PB.mono{base:Nat}{bs:List UInt8}:Zone.Mono (PB base bs):=fun _ _ _ hk ⟨A,c,h1,h2⟩=>⟨A,c,h1,h2.keep hk⟩
theorem pb_of{W:World}{base:Nat}{v:Value}{bs:List UInt8}(h:OwnB W base v bs)(hl:bs.length≤1000):PB base bs v W:=by
 obtain ⟨A,c,rfl⟩:=own_form h;exact ⟨A,c,rfl,h⟩
def idxB(rows many wd:Nat)(bs:List UInt8):List UInt8:=le rows 4++le many 4++[UInt8.ofNat wd]++bs
theorem ibytes_any{b rows many wd c:Nat}{A:Option Addr}{bs:List UInt8}(w:World)(h:IdxAt w b rows many wd A c bs)(hw:0<wd)(hw2:wd≤64)(hr:rows<4294967296)(hm:many<4294967296)(hl:bs.length≤1000000000) :
 Calls Tryz.prog 76 #[.pointer (some ⟨b,0,none⟩)] w fun e w'=>∃ v,e=.returned v∧OwnB w' w.heap.size v (idxB rows many wd bs)∧Keep w w':=by
 have HN:=lh (inone_any w h hw);have H:=lh h;clear h;go_enter Tryz.func76,Tryz.ntmps76;go_wp2_with (go_at_call 126;refine hold ?_);refine unhold ?_;refine HN.out.mono ?_;rintro e w1 ⟨rfl,hk1⟩;have HK1:=lh hk1;have H1:=lh (H.out.keep hk1);clear HN H hk1;go_wp2;have x0:=H1.out.r;have x1:=H1.out.m;have hb:=block_lt_of_cell x0;have hw0:IntKind.u32.wrap (rows:Int)=(rows:Int):=by simp [IntKind.wrap,IntKind.signed,IntKind.bits];omega
 have hw1:IntKind.u32.wrap (many:Int)=(many:Int):=by simp [IntKind.wrap,IntKind.signed,IntKind.bits];omega
 first|refine Zone.wp_region_all_gro (by kernel_rfl) (by kernel_rfl) ?_|refine Zone.wp_region_all (by kernel_rfl) (by kernel_rfl) ?_
 iterate 5
  refine Zone.wpZ_step (fun K hK=>?_);go_simp
  (refine hK _ _ ?_;clear hK K)
 refine Zone.wpZ_free 11 (PB w1.heap.size (le rows 4)) rfl PB.mono ?_ ?_
 ·intro p;simp only [Zone.fill,Zone.lookFs,List.filter_nil];go_simp;go_at_call 31;refine (app32_any none 0 [] rows hr _ (Sl.nil_ _ (by decide)) (by simp)).mono ?_;rintro e w2 ⟨u,rfl,hown,hk⟩;exact ⟨u,rfl,pb_of (hown.base_mono (by simp [size_gro])) (by simp [le_len]),hk⟩
 simp only [Zone.dropFs,List.filter_nil]
 iterate 5
  refine Zone.wpZ_step (fun K hK=>?_);unfold Zone.zone Zone.stepZ;rw [Zone.lookFs_nil (by rfl)];go_simp
  (refine hK _ _ ?_;clear hK K)
 refine Zone.wpZ_free 17 (PB w1.heap.size (le rows 4++le many 4)) rfl PB.mono ?_ ?_
 ·intro p;rw [show Zone.lookFs _ _ _=[(11,PB w1.heap.size (le rows 4))] from rfl];rintro v ⟨A5,c5,rfl,ho5⟩;have hs5:=Own.sl ho5 b8_len (by simp [le_len]);obtain ⟨A6,c6,he6,hs6⟩:=hs5;simp only [Value.slice.injEq,true_and] at he6;obtain ⟨rfl,rfl⟩:=he6;obtain ⟨L,hL⟩:∃ L,L=le rows 4:=⟨_,rfl⟩;rw [← hL] at hs6 ⊢;have hll:L.length=4:=by rw [hL,le_len]
  have HS6:=lh hs6;have HLL:=lh hll;have HL:=lh hL;clear hs6 ho5 hL hll;go_simp;go_at_call 31;refine (app32_any A5 c5 L many hm _ HS6.out (by rw [HLL.out];decide)).mono ?_;rintro e w2 ⟨u,rfl,hown,hk⟩;exact ⟨u,rfl,pb_of (hown.base_mono (by simp [size_gro])) (by simp [HLL.out,le_len]),hk⟩
 refine Zone.wpZ_free 3 (PB w1.heap.size (le rows 4++le many 4)) rfl PB.mono ?_ ?_
 ·intro p;rw [show Zone.lookFs _ _ _=[(17,PB w1.heap.size (le rows 4++le many 4))] from rfl];rintro v hv;go_simp
  (try exact ⟨hv,Keep.refl _⟩)
 refine Zone.wpZ_nil ?_;intro p2;simp only [Zone.fill];rintro v3 hv3 v17 _ v11 _;simp only [List.filter_nil,Zone.fill];obtain ⟨A3,c3,rfl,ho3⟩:=hv3;have HO2:=lh ho3;have HK2:=lh (show Keep w1 (w1.gro p2) from below_gro w1 p2);generalize hwg:w1.gro p2=w2 at HO2 HK2 ⊢;obtain ⟨L,hL⟩:∃ L,L=le rows 4++le many 4:=⟨_,rfl⟩;rw [← hL] at HO2 ⊢;have HLX:=lh hL;have hl8:L.length=8:=by rw [hL];simp [le_len]
 have HL8:=lh hl8;clear hwg x0 x1 hw0 hw1 hL hl8 ho3;go_simp;go_wp2;have x2:=(HK2.out.cell (p:=⟨b,2,none⟩) hb).trans H1.out.w_;have x3:=(HK2.out.cell (p:=⟨b,3,none⟩) hb).trans H1.out.b_;have hb2:b<w2.heap.size:=Nat.lt_of_lt_of_le hb HK2.out.size;have hz2:=HK2.out.size;have hw8:IntKind.u8.wrap (wd:Int)=(wd:Int):=by simp [IntKind.wrap,IntKind.signed,IntKind.bits];omega
 have HB:=lh (show b<w1.heap.size from hb);go_region_law (first
  | (refine step_app elt_u8 b8_len b8_one rfl (.tmp 18) (.tmp 24) rfl (ys:=[UInt8.ofNat wd]) (HO2.out.keep (by repeat first|exact kp0|apply kp1|apply kp2|apply kp3|apply kp4)) rfl rfl (sl_one _ (by omega) (by omega) (b8_at _ ?h0)) (by have:=HL8.out;simp;omega) (by simp;omega) ?_
     case h0=>rw [u8_nat,show (wd:Int)%256=wd by omega];simp [go_sem]
     intro v4 w4 hown4 hg4 hd4;have hk4:=(HO2.out.keep (by repeat first|exact kp0|apply kp1|apply kp2|apply kp3|apply kp4)).kept (w:=w1) hg4 (HK2.out.trans (by repeat first|exact kp0|apply kp1|apply kp2|apply kp3|apply kp4)) (Nat.le_refl _);have x4:=(hk4.cell (p:=⟨b,3,none⟩) HB.out).trans H1.out.b_;have hb4:b<w4.heap.size:=Nat.lt_of_lt_of_le HB.out hk4.size;have HK4:=lh hk4;have HO4:=lh hown4;clear hown4 hg4 hd4 hk4)
  | (refine step_app elt_u8 b8_len b8_one rfl (.tmp 25) (.tmp 29) rfl (ys:=bs) HO4.out rfl rfl (H1.out.sl.keep HK4.out) (by have:=HL8.out;simp;omega) HK4.out.size ?_
     intro v5 w5 hown5 hg5 hd5;have HK5:=lh (HO4.out.kept (w:=w1) hg5 HK4.out (Nat.le_refl _));have HO5:=lh hown5;clear hown5 hg5 hd5))
 all_goals
  go_wp2;go_ret;exact ⟨_,rfl,by
   have:=HO5.out.base_mono HK1.out.size;rw [HLX.out] at this;exact this,HK1.out.trans HK5.out⟩
end Go.Proofs.YtpkocnpamcchcaaGreatDoor
