/- Parts of the proof. -/
import Derived.Deep.Cut
import Derived.Deep.CutRange
import Derived.Test.YtpkocnpamcchcaaGreatDoorK03
set_option maxRecDepth 100000
set_option maxHeartbeats 4000000
set_option linter.unusedSimpArgs false
set_option linter.unusedVariables false
set_option linter.unnecessarySimpa false
namespace Go.Proofs.YtpkocnpamcchcaaGreatDoor
open Go.RowKit Go.Zone Go.Shelf
attribute [local go_sem] zone stepZ fill lookFs goes goesUpon dropFs cell_gro frozen_gro size_gro lt_add drew_gro tape_gro keep_refl
attribute [local go_sem] lt_add2 lt_add3 lt_add4 lt_add5 lt_add6 lt_add7 lt_add8 lt_add9 lt_add10 lt_add11 lt_add12
theorem rdim_any(A:Option Addr)(c:Nat)(cs:List Col)(i:Int)(w:World)(h:Sl w 2 Col.cells A c cs) :
 Calls Tryz.prog 91 #[.slice A cs.length c,.int .i64 i] w fun e w'=>e=.returned (.bool (dimP cs i))∧Keep w w':=by
 have hl:=sl_len h
 cases i with
 | ofNat k =>
   by_cases hk:k<cs.length
   ·obtain ⟨b,off,rfl,hb,h0,h1⟩:=sl_col h k hk;have hd:dimP cs (Int.ofNat k)=(cs[k].kind==1||cs[k].kind==2):=by simp [dimP,hk]
    have HD:=lh hd;clear h hd;go_enter Tryz.func91,Tryz.ntmps91;go_wp2
    all_goals go_ret
    all_goals exact ⟨by rw [HD.out];simp_all,(by repeat first|exact kp0|apply kp1|apply kp2|apply kp3|apply kp4)⟩
   ·have HD:=lh (show dimP cs (Int.ofNat k)=false by simp [dimP,hk]);clear h;go_enter Tryz.func91,Tryz.ntmps91;go_wp2;go_ret;exact ⟨by rw [HD.out];rfl,(by repeat first|exact kp0|apply kp1|apply kp2|apply kp3|apply kp4)⟩
 | negSucc k =>
   have HD:=lh (show dimP cs (Int.negSucc k)=false by simp [dimP]);clear h;go_enter Tryz.func91,Tryz.ntmps91;go_wp2;go_ret;exact ⟨by rw [HD.out];rfl,(by repeat first|exact kp0|apply kp1|apply kp2|apply kp3|apply kp4)⟩
theorem rhas_any(A:Option Addr)(c:Nat)(fs:List Bool)(i:Int)(w:World)(h:Sl w 1 flV A c fs) :
 Calls Tryz.prog 46 #[.slice A fs.length c,.int .i64 i] w fun e w'=>e=.returned (.bool (hasP fs i))∧Keep w w':=by
 have hl:=sl_len h
 cases i with
 | ofNat k =>
   by_cases hk:k<fs.length
   ·obtain ⟨b,off,rfl,hb,h0⟩:=sl_fl h k hk;have HD:=lh (show hasP fs (Int.ofNat k)=fs[k] by simp [hasP,hk]);clear h;go_enter Tryz.func46,Tryz.ntmps46;go_wp2;go_ret;exact ⟨by rw [HD.out];rfl,(by repeat first|exact kp0|apply kp1|apply kp2|apply kp3|apply kp4)⟩
   ·have HD:=lh (show hasP fs (Int.ofNat k)=false by simp [hasP,Nat.le_of_not_lt hk]);clear h;go_enter Tryz.func46,Tryz.ntmps46;go_wp2;go_ret;exact ⟨by rw [HD.out];rfl,(by repeat first|exact kp0|apply kp1|apply kp2|apply kp3|apply kp4)⟩
 | negSucc k =>
   have HD:=lh (show hasP fs (Int.negSucc k)=false by simp [hasP]);clear h;go_enter Tryz.func46,Tryz.ntmps46;go_wp2;go_ret;exact ⟨by rw [HD.out];rfl,(by repeat first|exact kp0|apply kp1|apply kp2|apply kp3|apply kp4)⟩
theorem rname_any(s:ByteArray)(w:World)(hz:s.size≤140737488355328):Calls Tryz.prog 146 #[.string s] w fun e w'=>e=.returned (.bool (pB (NameP s)))∧Keep w w':=by
 go_enter Tryz.func146,Tryz.ntmps146;go_wp2;go_loopw [3] (fun i wr=>∃ k:Nat,k≤s.size∧i=.int .i64 k∧wr=w∧Hid (∀ i,(h:i<s.size)→i<k→okB (s[i]'h).toNat=true)) (fun i _=>s.size-(intOf i).toNat)
 case atStart=>exact ⟨0,Nat.zero_le _,rfl,rfl,fun i h hi=>absurd hi (Nat.not_lt_zero _)⟩
 case round =>
  obtain ⟨k,hk,rfl,rfl,HP⟩:=hrel
  by_cases hp:k<s.size
  ·have HO:=lh (okB_spec (s[k]'hp).toNat);go_wp2
   all_goals first
   | (have hb:okB (s[k]'hp).toNat=false:=by
       rw [Bool.eq_false_iff,ne_eq,HO.out]
       try simp only [bne_iff_ne,ne_eq] at *
       omega
      go_ret;exact ⟨ret_bool (pB_no fun m=>by rw [m.ok k hp] at hb;cases hb).symm,(by repeat first|exact kp0|apply kp1|apply kp2|apply kp3|apply kp4)⟩)
   | (have hb:okB (s[k]'hp).toNat=true:=by
       rw [HO.out]
       try simp only [bne_eq_false_iff_eq] at *
       omega
      go_roundw
      case rel=>exact ⟨k+1,by omega,by go_num,trivial,fun i hi hik=>by
        by_cases e:i=k
        ·subst e;exact hb
        ·exact HP.out i hi (by omega)⟩
      case measure=>simp [intOf];omega)
  ·go_wp2
   ·go_ret;exact ⟨by
     by_cases h64:(s.size:Int)≤64
     ·rw [pB_yes ⟨fun i h=>HP.out i h (by omega),by omega,by omega⟩];simp [h64]
     ·rw [pB_no fun hn=>h64 (by have:=hn.hi;omega)];simp [h64],(by repeat first|exact kp0|apply kp1|apply kp2|apply kp3|apply kp4)⟩
   ·go_ret;exact ⟨ret_bool (pB_no fun hn=>by have:=hn.lo;omega).symm,(by repeat first|exact kp0|apply kp1|apply kp2|apply kp3|apply kp4)⟩
theorem r17may_any(A:Option Addr)(c:Nat)(cs:List Col)(w:World)(h:Sl w 2 Col.cells A c cs)(hz:∀ x∈cs,x.name.size≤140737488355328) :
 Calls Tryz.prog 90 #[.slice A cs.length c] w fun e w'=>e=.returned (.bool (pB (MayP cs)))∧Keep w w':=by
 have hl:=sl_len h;have H:=lh h;clear h;go_enter Tryz.func90,Tryz.ntmps90;go_wp2;go_loopw [3] (fun i wr=>∃ k:Nat,k≤cs.length∧i=.int .i64 k∧Hid (Keep w wr)∧Hid (∀ j,(h:j<cs.length)→j<k→NameP cs[j].name∧(1≤cs[j].kind∧cs[j].kind≤3)∧∀ m,(hm:m<j)→(cs[m]'(by omega)).name.toList≠cs[j].name.toList)) (fun i _=>cs.length-(intOf i).toNat)
 case atStart=>exact ⟨0,Nat.zero_le _,rfl,Keep.refl _,fun j _ hj=>absurd hj (Nat.not_lt_zero _)⟩
 case round =>
  obtain ⟨k,hk,rfl,HK,HR⟩:=hrel
  by_cases hlt:k<cs.length
  ·obtain ⟨b,off,hA,hb,h0,h1⟩:=sl_col (H.out.keep HK.out) k hlt;have HN:=lh (rname_any cs[k].name);have HZ:=lh (hz cs[k] (List.getElem_mem hlt));subst hA
   cases hq:pB (NameP cs[k].name)
   ·have HQ:=lh hq;go_wp2_with (go_at_call 146;refine (HN.out _ HZ.out).mono ?_;rintro e w' ⟨rfl,hk⟩;(first|obtain ⟨p,rfl⟩:=Zone.gro_of_gro _ _ hk|obtain ⟨p,rfl⟩:=Zone.gro_of_below _ hk);clear hk);go_ret;exact ⟨ret_bool (pB_no fun m=>by have:=HQ.out;rw [pB_yes (m.name k hlt)] at this;cases this).symm,HK.out.trans (by repeat first|exact kp0|apply kp1|apply kp2|apply kp3|apply kp4)⟩
   ·have HQ:=lh hq
    by_cases hkd:1≤cs[k].kind∧cs[k].kind≤3
    ·obtain ⟨hk1,hk2⟩:=hkd;go_wp2_with (go_at_call 146;refine (HN.out _ HZ.out).mono ?_;rintro e w' ⟨rfl,hk⟩;(first|obtain ⟨p,rfl⟩:=Zone.gro_of_gro _ _ hk|obtain ⟨p,rfl⟩:=Zone.gro_of_below _ hk);clear hk);go_loopw [4] (fun i w2=>∃ m:Nat,m≤k∧i=.int .i64 m∧Hid (Keep wr w2)∧Hid (∀ j,(h:j<m)→(hj:j<cs.length)→cs[j].name.toList≠cs[k].name.toList)) (fun i _=>k-(intOf i).toNat)
     case atStart=>exact ⟨0,Nat.zero_le _,rfl,(by repeat first|exact kp0|apply kp1|apply kp2|apply kp3|apply kp4),fun j hj=>absurd hj (Nat.not_lt_zero _)⟩
     case round =>
      obtain ⟨m,hm,rfl,HK2,HR2⟩:=hrel
      by_cases hmk:m<k
      ·obtain ⟨b2,off2,hA2,hb2,g0,g1⟩:=sl_col (H.out.keep (HK.out.trans HK2.out)) m (by omega);injection hA2 with hA2;injection hA2 with hA3 hA4;subst hA3;subst hA4;have k0:=(HK2.out.cell (p:=⟨b,off+k*2,none⟩) hb).trans h0;clear h0 h1 hb g1
       cases hc:(cs[m].name.toList==cs[k].name.toList)
       all_goals
           have HC:=lh hc;go_wp2;go_region;go_wp2
       ·go_roundw
        case rel=>exact ⟨m+1,by omega,by go_num,HK2.out.trans (by repeat first|exact kp0|apply kp1|apply kp2|apply kp3|apply kp4),fun j hj hj2=>by
         by_cases e:j=m
         ·subst e;have:=HC.out
          simpa using this
         ·exact HR2.out j (by omega) hj2⟩
        case measure=>simp [intOf];omega
       ·go_ret;exact ⟨ret_bool (pB_no fun f=>by
         have:=HC.out;exact f.one k m hlt hmk (by simpa using this)).symm,HK.out.trans (HK2.out.trans (by repeat first|exact kp0|apply kp1|apply kp2|apply kp3|apply kp4))⟩
      ·go_wp2;go_roundw
       case rel=>exact ⟨k+1,by omega,by go_num,HK.out.trans HK2.out,fun j hj hj2=>by
           by_cases e:j=k
           ·subst e;exact ⟨pB_iff.1 HQ.out,⟨hk1,hk2⟩,fun m' hm'=>HR2.out m' (by omega) _⟩
           ·exact HR.out j hj (by omega)⟩
       case measure=>simp [intOf];omega
    ·have HKD:=lh hkd;have hkd':cs[k].kind<1∨3<cs[k].kind:=by omega
     clear hkd
     rcases hkd' with hkd|hkd
     all_goals
      go_wp2_with (go_at_call 146;refine (HN.out _ HZ.out).mono ?_;rintro e w' ⟨rfl,hk⟩;(first|obtain ⟨p,rfl⟩:=Zone.gro_of_gro _ _ hk|obtain ⟨p,rfl⟩:=Zone.gro_of_below _ hk);clear hk);go_ret;exact ⟨ret_bool (pB_no fun m=>HKD.out (m.kind k hlt)).symm,HK.out.trans (by repeat first|exact kp0|apply kp1|apply kp2|apply kp3|apply kp4)⟩
  ·go_wp2
   all_goals go_ret
   all_goals refine ⟨?_,HK.out⟩
   ·by_cases h2:(cs.length:Int)≤256
    ·rw [pB_yes ⟨fun i hi=>(HR.out i hi (by omega)).1,fun i hi=>(HR.out i hi (by omega)).2.1,fun i j hi hj=>(HR.out i hi (by omega)).2.2 j hj,by omega,by omega⟩];simp [h2]
    ·rw [pB_no fun m=>h2 (by have:=m.hi;omega)];simp [h2]
   ·exact ret_bool (pB_no fun m=>by have:=m.lo;omega).symm
structure BoxA(w W:World)(vs:List Value):Prop where
 keep:Keep w W
 lt:w.heap.size<W.heap.size
 at_:∀ j u,vs[j]? =some u→W.cell? ⟨w.heap.size,j,none⟩=some u
theorem BoxA.start{w W:World}{vs:List Value}{t:TypeId}(hW:Keep (w.alloc (.cells vs.toArray t)) W):BoxA w W vs :=
 ⟨(Keep.alloc (Keep.refl w) _).trans hW,Nat.lt_of_lt_of_le (by simp) hW.size,fun j u h=>(hW.cell (p:=⟨w.heap.size,j,none⟩) (by simp [go_sem])).trans (by rw [← h];simp [go_sem])⟩
theorem BoxA.next{w W W':World}{vs:List Value}(h:BoxA w W vs)(hk:Keep W W'):BoxA w W' vs :=
 ⟨h.keep.trans hk,Nat.lt_of_lt_of_le h.lt hk.size,fun j u hu=>(hk.cell (p:=⟨w.heap.size,j,none⟩) h.lt).trans (h.at_ j u hu)⟩
theorem flags_iff(l:List Col)(f:List Bool)(h:f.length=0∨f.length=l.length):FlagP l f↔∀ i,i<l.length→hasP f (i:Int)=true→dimP l (i:Int)=true :=
 ⟨fun m i _ hi=>m.ok i hi,fun m=>⟨h,fun i hi=>by
  by_cases hl:i<l.length
  ·exact m i hl hi
  ·have:f.length≤i:=by omega
   simp [this] at hi⟩⟩
theorem fits_iff2(l:List Col)(c:Cfg):Fits l c↔(MayP l∧(c.sort= -1∨dimP l c.sort=true))∧((c.inv.length=0∨c.inv.length=l.length)∧(c.rng.length=0∨c.rng.length=l.length)) ∧
 (∀ i,i<l.length→(hasP c.inv (i:Int)=true∨hasP c.rng (i:Int)=true)→dimP l (i:Int)=true)∧(∀ j,(h:j<c.split.length)→dimP l c.split[j]=true∧∀ k,(hk:k<j)→c.split[k]'(by omega)≠c.split[j])∧c.split.length≤8∧1≤c.leaf∧c.leaf≤1000000:=by
 constructor
 ·intro f;exact ⟨⟨f.may,f.sort⟩,⟨f.inv.len,f.rng.len⟩,fun i _ hi=>hi.elim (f.inv.ok i) (f.rng.ok i),fun j h=>⟨f.split j h,fun k hk=>f.one j k h hk⟩,f.few,f.lo,f.hi⟩
 ·rintro ⟨⟨h1,h2⟩,⟨h3,h4⟩,h5,h6,h7,h8,h9⟩;exact ⟨h1,h2,(flags_iff l _ h3).2 fun i hi hx=>h5 i hi (.inl hx),(flags_iff l _ h4).2 fun i hi hx=>h5 i hi (.inr hx),fun j h=>(h6 j h).1,fun j k h hk=>(h6 j h).2 k hk,h7,h8,h9⟩
theorem rfits_any(A:Option Addr)(n:Nat)(cs:List Col)(c:Cfg)(w:World)(h:Sl w 2 Col.cells A n cs)(hz:∀ x∈cs,x.name.size≤140737488355328)(hc:CfgAt w c) :
 Calls Tryz.prog 39 #[.slice A cs.length n,c.v] w fun e w'=>e=.returned (.bool (pB (Fits cs c)))∧Keep w w':=by
 have HI:=lh (fits_iff2 cs c);obtain ⟨s0,iA,ic,iv,rA,rc,rv,sA,sc,sp,lf⟩:=c;have hl:=sl_len h;have hl2:=sl_len hc.s;have hl3:=sl_len hc.i;have hl4:=sl_len hc.r;have HM:=lh (fun W (hW:Keep w W)=>r17may_any A n cs W (h.keep hW) hz);have HD:=lh (fun W (hW:Keep w W) (i:Int)=>rdim_any A n cs i W (h.keep hW));have HV1:=lh (fun W (hW:Keep w W) (i:Int)=>rhas_any iA ic iv i W (hc.i.keep hW));have HV2:=lh (fun W (hW:Keep w W) (i:Int)=>rhas_any rA rc rv i W (hc.r.keep hW));have HS:=lh hc.s;have hcap:=hc.s.cap;have hbig:=hc.s.big;simp only [Cfg.v];clear h hc;go_enter Tryz.func39,Tryz.ntmps39;go_upto_region 1 with fail;go_cut [22] from 8 to 22 (fun s22 wx=>s22=.bool (!pB (MayP cs∧(s0= -1∨dimP cs s0=true)))∧Hid (BoxA w wx [.int .i64 s0,.slice iA iv.length ic,.slice rA rv.length rc,.slice sA sp.length sc,.int .i64 lf]))
 case first =>
  cases hq1:pB (MayP cs)
  ·have HQ:=lh hq1;go_wp2_with (go_at_call 90;refine (HM.out _ (by repeat first|exact kp0|apply kp1|apply kp2|apply kp3|apply kp4)).mono ?_;rintro e w' ⟨rfl,hk⟩;(first|obtain ⟨p,rfl⟩:=Zone.gro_of_gro _ _ hk|obtain ⟨p,rfl⟩:=Zone.gro_of_below _ hk);clear hk);go_meet;exact ⟨by rw [pB_no fun f=>by have:=HQ.out;rw [pB_yes f.1] at this;cases this];rfl,BoxA.start (t:=26) (by repeat first|exact kp0|apply kp1|apply kp2|apply kp3|apply kp4)⟩
  ·have HQ:=lh hq1
   by_cases hs1:s0= -1
   ·have HS1:=lh hs1;have hs2:(s0 != -1)=false:=by simp [hs1]
    clear hs1;go_wp2_with (go_at_call 90;refine (HM.out _ (by repeat first|exact kp0|apply kp1|apply kp2|apply kp3|apply kp4)).mono ?_;rintro e w' ⟨rfl,hk⟩;(first|obtain ⟨p,rfl⟩:=Zone.gro_of_gro _ _ hk|obtain ⟨p,rfl⟩:=Zone.gro_of_below _ hk);clear hk);go_meet;exact ⟨by rw [pB_yes ⟨pB_iff.1 HQ.out,.inl HS1.out⟩];rfl,BoxA.start (t:=26) (by repeat first|exact kp0|apply kp1|apply kp2|apply kp3|apply kp4)⟩
   ·have HS1:=lh hs1
    cases hd:dimP cs s0
    ·have HX:=lh hd;go_wp2_with (first|(go_at_call 90;refine (HM.out _ (by repeat first|exact kp0|apply kp1|apply kp2|apply kp3|apply kp4)).mono ?_;rintro e w' ⟨rfl,hk⟩;(first|obtain ⟨p,rfl⟩:=Zone.gro_of_gro _ _ hk|obtain ⟨p,rfl⟩:=Zone.gro_of_below _ hk);clear hk)|(go_at_call 91;refine (HD.out _ (by repeat first|exact kp0|apply kp1|apply kp2|apply kp3|apply kp4) _).mono ?_;rintro e w' ⟨rfl,hk⟩;(first|obtain ⟨p,rfl⟩:=Zone.gro_of_gro _ _ hk|obtain ⟨p,rfl⟩:=Zone.gro_of_below _ hk);clear hk));go_meet;exact ⟨by
      rw [pB_no fun f=>f.2.elim HS1.out fun h=>by have:=HX.out;rw [h] at this;cases this];simp [HS1.out],BoxA.start (t:=26) (by repeat first|exact kp0|apply kp1|apply kp2|apply kp3|apply kp4)⟩
    ·have HX:=lh hd;go_wp2_with (first|(go_at_call 90;refine (HM.out _ (by repeat first|exact kp0|apply kp1|apply kp2|apply kp3|apply kp4)).mono ?_;rintro e w' ⟨rfl,hk⟩;(first|obtain ⟨p,rfl⟩:=Zone.gro_of_gro _ _ hk|obtain ⟨p,rfl⟩:=Zone.gro_of_below _ hk);clear hk)|(go_at_call 91;refine (HD.out _ (by repeat first|exact kp0|apply kp1|apply kp2|apply kp3|apply kp4) _).mono ?_;rintro e w' ⟨rfl,hk⟩;(first|obtain ⟨p,rfl⟩:=Zone.gro_of_gro _ _ hk|obtain ⟨p,rfl⟩:=Zone.gro_of_below _ hk);clear hk));go_meet;exact ⟨by rw [pB_yes ⟨pB_iff.1 HQ.out,.inr HX.out⟩];rfl,BoxA.start (t:=26) (by repeat first|exact kp0|apply kp1|apply kp2|apply kp3|apply kp4)⟩
 case rest =>
  obtain ⟨rfl,HB1⟩:=hcut;rename World=>w1;have HK1:=lh HB1.out.keep
  cases hq:pB (MayP cs∧(s0= -1∨dimP cs s0=true))
  ·have HQ:=lh hq;go_wp2;go_ret;exact ⟨ret_bool (pB_no fun f=>by have:=HQ.out;rw [pB_yes (HI.out.1 f).1] at this;cases this).symm,HK1.out⟩
  ·have HQ:=lh hq;go_upto_region 3 with fail;go_cut [48] from 23 to 48 (fun s48 wx=>s48=.bool (!decide ((iv.length=0∨iv.length=cs.length)∧(rv.length=0∨rv.length=cs.length)))∧Hid (BoxA w wx [.int .i64 s0,.slice iA iv.length ic,.slice rA rv.length rc,.slice sA sp.length sc,.int .i64 lf]))
   case first =>
    have x0:=HB1.out.at_ 0 _ rfl;have x1:=HB1.out.at_ 1 _ rfl;have x2:=HB1.out.at_ 2 _ rfl;have x3:=HB1.out.at_ 3 _ rfl;have x4:=HB1.out.at_ 4 _ rfl;have xl:=HB1.out.lt
    cases e1:((iv.length:Int) != 0)
    all_goals cases e2:((rv.length:Int) != 0)
    all_goals cases e3:((iv.length:Int) != (cs.length:Int))
    all_goals cases e4:((rv.length:Int) != (cs.length:Int))
    all_goals
     have E:=lh (And.intro e1 (And.intro e2 (And.intro e3 e4)));go_wp2;go_meet
    all_goals
     obtain ⟨f1,f2,f3,f4⟩:=E.out;simp only [bne_eq_false_iff_eq,bne_iff_ne,ne_eq] at f1 f2 f3 f4;refine ⟨congrArg Value.bool (Eq.symm ?_),HB1.out⟩;simp only [Bool.not_eq_false',Bool.not_eq_true',decide_eq_true_iff,decide_eq_false_iff_not];omega
   case rest =>
    obtain ⟨rfl,HB2⟩:=hcut;rename World=>w2;have HK2:=lh HB2.out.keep;clear HB1 HK1
    cases hq2:decide ((iv.length=0∨iv.length=cs.length)∧(rv.length=0∨rv.length=cs.length))
    ·have HQ2:=lh hq2;go_wp2;go_ret;exact ⟨ret_bool (pB_no fun f=>(of_decide_eq_false HQ2.out) (HI.out.1 f).2.1).symm,HK2.out⟩
    ·have HQ2:=lh hq2;go_wp2;go_loopw [5] (fun i wr=>∃ k:Nat,k≤cs.length∧i=.int .i64 k∧Hid (BoxA w wr [.int .i64 s0,.slice iA iv.length ic,.slice rA rv.length rc,.slice sA sp.length sc,.int .i64 lf])∧Hid (∀ j:Nat,j<k→(hasP iv (j:Int)=true∨hasP rv (j:Int)=true)→dimP cs (j:Int)=true)) (fun i _=>cs.length-(intOf i).toNat)
     case atStart=>exact ⟨0,Nat.zero_le _,rfl,HB2.out,fun j hj=>absurd hj (Nat.not_lt_zero _)⟩
     case round =>
           obtain ⟨k,hk,rfl,HB,HR⟩:=hrel;have HK:=lh HB.out.keep;have x0:=HB.out.at_ 0 _ rfl;have x1:=HB.out.at_ 1 _ rfl;have x2:=HB.out.at_ 2 _ rfl;have x3:=HB.out.at_ 3 _ rfl;have x4:=HB.out.at_ 4 _ rfl;have xl:=HB.out.lt
           by_cases hlt:k<cs.length
           ·cases hd:dimP cs (k:Int)
            ·have HD1:=lh hd
             cases hi:hasP iv (k:Int)
             ·have HI1:=lh hi
              cases hr:hasP rv (k:Int)
              ·have HR1:=lh hr;go_wp2_with (first|(go_at_call 91;refine (HD.out _ (HK.out.trans (by repeat first|exact kp0|apply kp1|apply kp2|apply kp3|apply kp4)) _).mono ?_;rintro e w' ⟨rfl,hk⟩;(first|obtain ⟨p,rfl⟩:=Zone.gro_of_gro _ _ hk|obtain ⟨p,rfl⟩:=Zone.gro_of_below _ hk);clear hk)|(go_at_call 46;with_reducible refine (HV1.out _ (HK.out.trans (by repeat first|exact kp0|apply kp1|apply kp2|apply kp3|apply kp4)) _).mono ?_;rintro e w' ⟨rfl,hk⟩;(first|obtain ⟨p,rfl⟩:=Zone.gro_of_gro _ _ hk|obtain ⟨p,rfl⟩:=Zone.gro_of_below _ hk);clear hk)|(go_at_call 46;with_reducible refine (HV2.out _ (HK.out.trans (by repeat first|exact kp0|apply kp1|apply kp2|apply kp3|apply kp4)) _).mono ?_;rintro e w' ⟨rfl,hk⟩;(first|obtain ⟨p,rfl⟩:=Zone.gro_of_gro _ _ hk|obtain ⟨p,rfl⟩:=Zone.gro_of_below _ hk);clear hk));go_roundw
               case rel=>exact ⟨k+1,by omega,by go_num,HB.out.next (by repeat first|exact kp0|apply kp1|apply kp2|apply kp3|apply kp4),fun j hj h=>by
               by_cases e:j=k
               ·subst e;rw [HI1.out,HR1.out] at h;simp at h
               ·exact HR.out j (by omega) h⟩
               case measure=>simp [intOf];omega
              ·have HR1:=lh hr;go_wp2_with (first|(go_at_call 91;refine (HD.out _ (HK.out.trans (by repeat first|exact kp0|apply kp1|apply kp2|apply kp3|apply kp4)) _).mono ?_;rintro e w' ⟨rfl,hk⟩;(first|obtain ⟨p,rfl⟩:=Zone.gro_of_gro _ _ hk|obtain ⟨p,rfl⟩:=Zone.gro_of_below _ hk);clear hk)|(go_at_call 46;with_reducible refine (HV1.out _ (HK.out.trans (by repeat first|exact kp0|apply kp1|apply kp2|apply kp3|apply kp4)) _).mono ?_;rintro e w' ⟨rfl,hk⟩;(first|obtain ⟨p,rfl⟩:=Zone.gro_of_gro _ _ hk|obtain ⟨p,rfl⟩:=Zone.gro_of_below _ hk);clear hk)|(go_at_call 46;with_reducible refine (HV2.out _ (HK.out.trans (by repeat first|exact kp0|apply kp1|apply kp2|apply kp3|apply kp4)) _).mono ?_;rintro e w' ⟨rfl,hk⟩;(first|obtain ⟨p,rfl⟩:=Zone.gro_of_gro _ _ hk|obtain ⟨p,rfl⟩:=Zone.gro_of_below _ hk);clear hk));go_ret;exact ⟨ret_bool (pB_no fun f=>by have:=(HI.out.1 f).2.2.1 k hlt (.inr HR1.out);rw [HD1.out] at this;cases this).symm,HK.out.trans (by repeat first|exact kp0|apply kp1|apply kp2|apply kp3|apply kp4)⟩
             ·have HI1:=lh hi;go_wp2_with (first|(go_at_call 91;refine (HD.out _ (HK.out.trans (by repeat first|exact kp0|apply kp1|apply kp2|apply kp3|apply kp4)) _).mono ?_;rintro e w' ⟨rfl,hk⟩;(first|obtain ⟨p,rfl⟩:=Zone.gro_of_gro _ _ hk|obtain ⟨p,rfl⟩:=Zone.gro_of_below _ hk);clear hk)|(go_at_call 46;with_reducible refine (HV1.out _ (HK.out.trans (by repeat first|exact kp0|apply kp1|apply kp2|apply kp3|apply kp4)) _).mono ?_;rintro e w' ⟨rfl,hk⟩;(first|obtain ⟨p,rfl⟩:=Zone.gro_of_gro _ _ hk|obtain ⟨p,rfl⟩:=Zone.gro_of_below _ hk);clear hk)|(go_at_call 46;with_reducible refine (HV2.out _ (HK.out.trans (by repeat first|exact kp0|apply kp1|apply kp2|apply kp3|apply kp4)) _).mono ?_;rintro e w' ⟨rfl,hk⟩;(first|obtain ⟨p,rfl⟩:=Zone.gro_of_gro _ _ hk|obtain ⟨p,rfl⟩:=Zone.gro_of_below _ hk);clear hk));go_ret;exact ⟨ret_bool (pB_no fun f=>by have:=(HI.out.1 f).2.2.1 k hlt (.inl HI1.out);rw [HD1.out] at this;cases this).symm,HK.out.trans (by repeat first|exact kp0|apply kp1|apply kp2|apply kp3|apply kp4)⟩
            ·have HD1:=lh hd;go_wp2_with (go_at_call 91;refine (HD.out _ (HK.out.trans (by repeat first|exact kp0|apply kp1|apply kp2|apply kp3|apply kp4)) _).mono ?_;rintro e w' ⟨rfl,hk⟩;(first|obtain ⟨p,rfl⟩:=Zone.gro_of_gro _ _ hk|obtain ⟨p,rfl⟩:=Zone.gro_of_below _ hk);clear hk);go_roundw
             case rel=>exact ⟨k+1,by omega,by go_num,HB.out.next (by repeat first|exact kp0|apply kp1|apply kp2|apply kp3|apply kp4),fun j hj h=>by
              by_cases e:j=k
              ·subst e;exact HD1.out
              ·exact HR.out j (by omega) h⟩
             case measure=>simp [intOf];omega
           ·have HR5:=lh (show ∀ i,i<cs.length→(hasP iv (i:Int)=true∨hasP rv (i:Int)=true)→dimP cs (i:Int)=true from fun i hi=>HR.out i (by omega));clear HR;go_wp2;go_loopw [6] (fun i wr=>∃ m:Nat,m≤sp.length∧i=.int .i64 m∧Hid (BoxA w wr [.int .i64 s0,.slice iA iv.length ic,.slice rA rv.length rc,.slice sA sp.length sc,.int .i64 lf])∧Hid (∀ j,(h:j<sp.length)→j<m→dimP cs sp[j]=true∧∀ k,(hk:k<j)→sp[k]'(by omega)≠sp[j])) (fun i _=>sp.length-(intOf i).toNat)
            case atStart=>exact ⟨0,Nat.zero_le _,rfl,HB.out,fun j _ hj=>absurd hj (Nat.not_lt_zero _)⟩
            case round =>
             clear x0 x1 x2 x3 x4 xl HB HK;obtain ⟨m,hm,rfl,HB,HR⟩:=hrel;have HK:=lh HB.out.keep;have x0:=HB.out.at_ 0 _ rfl;have x1:=HB.out.at_ 1 _ rfl;have x2:=HB.out.at_ 2 _ rfl;have x3:=HB.out.at_ 3 _ rfl;have x4:=HB.out.at_ 4 _ rfl;have xl:=HB.out.lt
             by_cases hlt2:m<sp.length
             ·obtain ⟨b,off,hA,hb2,h0⟩:=sl_i64 (HS.out.keep HK.out) m hlt2;subst hA
              cases hd:dimP cs sp[m]
              ·have HD1:=lh hd;go_wp2_with (go_at_call 91;refine (HD.out _ (HK.out.trans (by repeat first|exact kp0|apply kp1|apply kp2|apply kp3|apply kp4)) _).mono ?_;rintro e w' ⟨rfl,hk⟩;(first|obtain ⟨p,rfl⟩:=Zone.gro_of_gro _ _ hk|obtain ⟨p,rfl⟩:=Zone.gro_of_below _ hk);clear hk);go_ret;exact ⟨ret_bool (pB_no fun f=>by have:=((HI.out.1 f).2.2.2.1 m hlt2).1;rw [HD1.out] at this;cases this).symm,HK.out.trans (by repeat first|exact kp0|apply kp1|apply kp2|apply kp3|apply kp4)⟩
              ·have HD1:=lh hd;go_wp2_with (go_at_call 91;refine (HD.out _ (HK.out.trans (by repeat first|exact kp0|apply kp1|apply kp2|apply kp3|apply kp4)) _).mono ?_;rintro e w' ⟨rfl,hk⟩;(first|obtain ⟨p,rfl⟩:=Zone.gro_of_gro _ _ hk|obtain ⟨p,rfl⟩:=Zone.gro_of_below _ hk);clear hk);go_loopw [7] (fun i wr=>∃ q:Nat,q≤m∧i=.int .i64 q∧Hid (BoxA w wr [.int .i64 s0,.slice iA iv.length ic,.slice rA rv.length rc,.slice (some ⟨b,off,none⟩) sp.length sc,.int .i64 lf])∧Hid (∀ k,(hk:k<q)→(hk2:k<sp.length)→sp[k]≠sp[m])) (fun i _=>m-(intOf i).toNat)
               case atStart=>exact ⟨0,Nat.zero_le _,rfl,HB.out.next (by repeat first|exact kp0|apply kp1|apply kp2|apply kp3|apply kp4),fun k hk=>absurd hk (Nat.not_lt_zero _)⟩
               case round =>
               clear x0 x1 x2 x3 x4 xl h0;obtain ⟨q,hq3,rfl,HB3,HR3⟩:=hrel;have HK3:=lh HB3.out.keep;have x0:=HB3.out.at_ 0 _ rfl;have x1:=HB3.out.at_ 1 _ rfl;have x2:=HB3.out.at_ 2 _ rfl;have x3:=HB3.out.at_ 3 _ rfl;have x4:=HB3.out.at_ 4 _ rfl;have xl:=HB3.out.lt
               by_cases hqm:q<m
               ·obtain ⟨b',off',hA',_,g0⟩:=sl_i64 (HS.out.keep HK3.out) m hlt2;obtain ⟨b2,off2,hA2,_,g1⟩:=sl_i64 (HS.out.keep HK3.out) q (by omega)
                cases hA'
                cases hA2
                cases hc:(sp[q]==sp[m])
                ·have HC:=lh hc;go_wp2;go_region;go_wp2;go_roundw
                 case rel=>exact ⟨q+1,by omega,by go_num,HB3.out.next (by repeat first|exact kp0|apply kp1|apply kp2|apply kp3|apply kp4),fun k hk hk2=>by
                  by_cases e:k=q
                  ·subst e;have:=HC.out
                   simpa using this
                  ·exact HR3.out k (by omega) hk2⟩
                 case measure=>simp [intOf];omega
                ·have HC:=lh hc;go_wp2;go_region;go_wp2;go_ret;exact ⟨ret_bool (pB_no fun f=>by
                  have:=HC.out;exact ((HI.out.1 f).2.2.2.1 m hlt2).2 q hqm (by simpa using this)).symm,HK3.out.trans (by repeat first|exact kp0|apply kp1|apply kp2|apply kp3|apply kp4)⟩
               ·go_wp2;go_roundw
                case rel=>exact ⟨m+1,by omega,by go_num,HB3.out,fun j hj hjm=>by
                      by_cases e:j=m
                      ·subst e;exact ⟨HD1.out,fun k hk=>HR3.out k (by omega) _⟩
                      ·exact HR.out j hj (by omega)⟩
                case measure=>simp [intOf];omega
             ·have HP:=lh (show Fits cs ⟨s0,iA,ic,iv,rA,rc,rv,sA,sc,sp,lf⟩↔sp.length≤8∧1≤lf∧lf≤1000000 from
               ⟨fun f=>(HI.out.1 f).2.2.2.2,fun h=>HI.out.2 ⟨pB_iff.1 HQ.out,of_decide_eq_true HQ2.out,HR5.out,fun j hj=>HR.out j hj (by omega),h⟩⟩)
              go_wp2
              all_goals go_ret
              all_goals refine ⟨?_,HK.out⟩
              all_goals (have HG:=HP.out;clear HP HI)
              all_goals first
              | exact ret_bool (pB_no fun f=>by have:=HG.1 f;omega).symm
              | (refine ret_bool ?_
                 rw [Bool.eq_iff_iff,pB_iff,HG,decide_eq_true_iff];omega)
def SomeB(e:Ending):Prop:=∃ g,e=.returned (.bool g)
theorem rgreat_any(A:Option Addr)(n:Nat)(cs:List Col)(c:Cfg)(w:World)(h:Sl w 2 Col.cells A n cs)(hz:∀ x∈cs,x.name.size≤140737488355328)(hc:CfgAt w c) :
 Calls Tryz.prog 57 #[.slice A cs.length n,c.v] w fun e w'=>SomeB e∧Keep w w':=by
 obtain ⟨s0,iA,ic,iv,rA,rc,rv,sA,sc,sp,lf⟩:=c;have hl:=sl_len h;have hl2:=sl_len hc.s;have hl3:=sl_len hc.i;have hl4:=sl_len hc.r;have H:=lh h;simp only [Cfg.v];clear h hc;go_enter Tryz.func57,Tryz.ntmps57;go_wp2;go_loopw [5] (fun i wr=>∃ k:Nat,k≤cs.length∧i=.int .i64 k∧Hid (BoxA w wr [.int .i64 s0,.slice iA iv.length ic,.slice rA rv.length rc,.slice sA sp.length sc,.int .i64 lf])) (fun i _=>cs.length-(intOf i).toNat)
 case atStart=>exact ⟨0,Nat.zero_le _,rfl,BoxA.start (t:=26) (by repeat first|exact kp0|apply kp1|apply kp2|apply kp3|apply kp4)⟩
 case round =>
  obtain ⟨k,hk,rfl,HB⟩:=hrel;have HK:=lh HB.out.keep;have x0:=HB.out.at_ 0 _ rfl;have x1:=HB.out.at_ 1 _ rfl;have x2:=HB.out.at_ 2 _ rfl;have x3:=HB.out.at_ 3 _ rfl;have x4:=HB.out.at_ 4 _ rfl;have xl:=HB.out.lt
  by_cases hlt:k<cs.length
  ·obtain ⟨b,off,hA,hb,h0,h1⟩:=sl_col (H.out.keep HK.out) k hlt;have hz1:=hz cs[k] (List.getElem_mem hlt);subst hA
   cases hg:decide (200<(cs[k].name.size:Int))
   ·go_wp2;go_roundw
    case rel=>exact ⟨k+1,by omega,by go_num,HB.out⟩
    case measure=>simp [intOf];omega
   ·go_wp2;go_ret;exact ⟨⟨_,rfl⟩,HK.out⟩
  ·go_wp2
   all_goals go_ret
   all_goals exact ⟨⟨_,rfl⟩,HK.out⟩
end Go.Proofs.YtpkocnpamcchcaaGreatDoor
