/- Parts of the proof. -/
import Derived.Test.YtpkocnpamcchcaaGreatDoorK02
set_option maxRecDepth 100000
set_option maxHeartbeats 4000000
set_option linter.unusedSimpArgs false
set_option linter.unusedVariables false
set_option linter.unnecessarySimpa false
namespace Go.Proofs.YtpkocnpamcchcaaGreatDoor
open Go.RowKit Go.Zone Go.Shelf
attribute [local go_sem] zone stepZ fill lookFs goes goesUpon dropFs cell_gro frozen_gro size_gro lt_add drew_gro tape_gro keep_refl
attribute [local go_sem] lt_add2 lt_add3 lt_add4 lt_add5 lt_add6 lt_add7 lt_add8 lt_add9 lt_add10 lt_add11 lt_add12
def i64V(x:Int):List Value:=[.int .i64 x]
def flV(x:Bool):List Value:=[.bool x]
theorem sl_i64{w:World}{c:Nat}{A:Option Addr}{xs:List Int}(h:Sl w 1 i64V A c xs)(i:Nat)(hi:i<xs.length):∃ b off,A=some ⟨b,off,none⟩∧b<w.heap.size∧w.cell? ⟨b,off+i,none⟩=some (.int .i64 xs[i]):=by
 obtain ⟨b,off,hA,hc⟩:=h.at_ i hi;have h0:=hc 0 _ rfl;exact ⟨b,off,hA,World.block_lt_of_cell? w _ h0,by simpa using h0⟩
theorem sl_fl{w:World}{c:Nat}{A:Option Addr}{xs:List Bool}(h:Sl w 1 flV A c xs)(i:Nat)(hi:i<xs.length):∃ b off,A=some ⟨b,off,none⟩∧b<w.heap.size∧w.cell? ⟨b,off+i,none⟩=some (.bool xs[i]):=by
 obtain ⟨b,off,hA,hc⟩:=h.at_ i hi;have h0:=hc 0 _ rfl;exact ⟨b,off,hA,World.block_lt_of_cell? w _ h0,by simpa using h0⟩
theorem sfind1_any(c:Col)(n:ByteArray)(b:Nat)(w:World)(h:w.cell? ⟨b,0,none⟩=some (.string n))(hb:b<w.heap.size):Calls Tryz.prog 186 #[c.v,.pointer (some ⟨b,0,none⟩)] w fun e w'=>e=.returned (.bool (isCol n c))∧Keep w w':=by
 obtain ⟨k',n'⟩:=c;simp only [Col.v];go_enter Tryz.func186,Tryz.ntmps186;go_wp2;go_ret;exact ⟨rfl,(by repeat first|exact kp0|apply kp1|apply kp2|apply kp3|apply kp4)⟩
theorem sfind_any(A:Option Addr)(c:Nat)(cs:List Col)(n:ByteArray)(w:World)(h:Sl w 2 Col.cells A c cs) :
 Calls Tryz.prog 149 #[.slice A cs.length c,.string n] w fun e w'=>e=.returned (.int .i64 (idxP (isCol n) cs 0))∧Keep w w':=by
 have HS:=lh h;clear h;go_enter Tryz.func149,Tryz.ntmps149;go_wp2_with (go_at_call 185;refine hold ?_);refine unhold ?_;refine (indexCol_any A c cs 186 #[.pointer (some ⟨w.heap.size,0,none⟩)] (isCol n) _ (enters_of Tryz.func186 (by kernel_rfl) rfl) (HS.out.keep (by repeat first|exact kp0|apply kp1|apply kp2|apply kp3|apply kp4)) (fun W x hW=>sfind1_any x n _ W ((hW.cell (p:=⟨w.heap.size,0,none⟩) (by simp [go_sem])).trans (by simp [go_sem])) (Nat.lt_of_lt_of_le (by simp [go_sem]) hW.size))).mono ?_;rintro e w' ⟨rfl,hk⟩;obtain ⟨p,rfl⟩:=gro_of_below _ hk;clear HS hk;go_wp2;go_ret;exact ⟨rfl,(by repeat first|exact kp0|apply kp1|apply kp2|apply kp3|apply kp4)⟩
theorem dim_any(A:Option Addr)(c:Nat)(cs:List Col)(i:Int)(w:World)(h:Sl w 2 Col.cells A c cs) :
 Calls Tryz.prog 32 #[.slice A cs.length c,.int .i64 i] w fun e w'=>e=.returned (.bool (dimP cs i))∧Keep w w':=by
 have hl:=sl_len h
 cases i with
 | ofNat k =>
   by_cases hk:k<cs.length
   ·obtain ⟨b,off,rfl,hb,h0,h1⟩:=sl_col h k hk;have hd:dimP cs (Int.ofNat k)=(cs[k].kind==1||cs[k].kind==2):=by simp [dimP,hk]
    have HD:=lh hd;clear h hd;go_enter Tryz.func32,Tryz.ntmps32;go_wp2
    all_goals go_ret
    all_goals exact ⟨by rw [HD.out];simp_all,(by repeat first|exact kp0|apply kp1|apply kp2|apply kp3|apply kp4)⟩
   ·have HD:=lh (show dimP cs (Int.ofNat k)=false by simp [dimP,hk]);clear h;go_enter Tryz.func32,Tryz.ntmps32;go_wp2;go_ret;exact ⟨by rw [HD.out];rfl,(by repeat first|exact kp0|apply kp1|apply kp2|apply kp3|apply kp4)⟩
 | negSucc k =>
   have HD:=lh (show dimP cs (Int.negSucc k)=false by simp [dimP]);clear h;go_enter Tryz.func32,Tryz.ntmps32;go_wp2;go_ret;exact ⟨by rw [HD.out];rfl,(by repeat first|exact kp0|apply kp1|apply kp2|apply kp3|apply kp4)⟩
def hasP(f:List Bool)(i:Int):Bool:=match i with
 | .ofNat k=>f.getD k false
 | .negSucc _=>false
theorem has_any(A:Option Addr)(c:Nat)(fs:List Bool)(i:Int)(w:World)(h:Sl w 1 flV A c fs) :
 Calls Tryz.prog 56 #[.slice A fs.length c,.int .i64 i] w fun e w'=>e=.returned (.bool (hasP fs i))∧Keep w w':=by
 have hl:=sl_len h
 cases i with
 | ofNat k =>
   by_cases hk:k<fs.length
   ·obtain ⟨b,off,rfl,hb,h0⟩:=sl_fl h k hk;have HD:=lh (show hasP fs (Int.ofNat k)=fs[k] by simp [hasP,hk]);clear h;go_enter Tryz.func56,Tryz.ntmps56;go_wp2;go_ret;exact ⟨by rw [HD.out];rfl,(by repeat first|exact kp0|apply kp1|apply kp2|apply kp3|apply kp4)⟩
   ·have HD:=lh (show hasP fs (Int.ofNat k)=false by simp [hasP,Nat.le_of_not_lt hk]);clear h;go_enter Tryz.func56,Tryz.ntmps56;go_wp2;go_ret;exact ⟨by rw [HD.out];rfl,(by repeat first|exact kp0|apply kp1|apply kp2|apply kp3|apply kp4)⟩
 | negSucc k =>
   have HD:=lh (show hasP fs (Int.negSucc k)=false by simp [hasP]);clear h;go_enter Tryz.func56,Tryz.ntmps56;go_wp2;go_ret;exact ⟨by rw [HD.out];rfl,(by repeat first|exact kp0|apply kp1|apply kp2|apply kp3|apply kp4)⟩
theorem smay_any(A:Option Addr)(c:Nat)(cs:List Col)(w:World)(h:Sl w 2 Col.cells A c cs)(hz:∀ x∈cs,x.name.size≤140737488355328) :
 Calls Tryz.prog 99 #[.slice A cs.length c] w fun e w'=>e=.returned (.bool (pB (MayP cs)))∧Keep w w':=by
 have hl:=sl_len h;have H:=lh h;clear h;go_enter Tryz.func99,Tryz.ntmps99;go_wp2;go_loopw [7] (fun i wr=>∃ k:Nat,k≤cs.length∧i=.int .i64 k∧Hid (Keep w wr)∧Hid (∀ j,(h:j<cs.length)→j<k→NameP cs[j].name∧(1≤cs[j].kind∧cs[j].kind≤3)∧idxP (isCol cs[j].name) cs 0=(j:Int))) (fun i _=>cs.length-(intOf i).toNat)
 case atStart=>exact ⟨0,Nat.zero_le _,rfl,Keep.refl _,fun j _ hj=>absurd hj (Nat.not_lt_zero _)⟩
 case round =>
  obtain ⟨k,hk,rfl,HK,HR⟩:=hrel
  by_cases hlt:k<cs.length
  ·obtain ⟨b,off,hA,hb,h0,h1⟩:=sl_col (H.out.keep HK.out) k hlt;have HN:=lh (isName_any cs[k].name);have HZ:=lh (hz cs[k] (List.getElem_mem hlt));have HF:=lh (sfind_any A c cs cs[k].name);subst hA
   cases hq:pB (NameP cs[k].name)
   ·have HQ:=lh hq;go_wp2_with (go_at_call 148;refine (HN.out _ HZ.out).mono ?_;rintro e w' ⟨rfl,hk⟩;(first|obtain ⟨p,rfl⟩:=Zone.gro_of_gro _ _ hk|obtain ⟨p,rfl⟩:=Zone.gro_of_below _ hk);clear hk);go_ret;exact ⟨ret_bool (pB_no fun m=>by have:=HQ.out;rw [pB_yes (m.name k hlt)] at this;cases this).symm,HK.out.trans (by repeat first|exact kp0|apply kp1|apply kp2|apply kp3|apply kp4)⟩
   ·have HQ:=lh hq;go_wp2_with (first|(go_at_call 148;refine (HN.out _ HZ.out).mono ?_;rintro e w' ⟨rfl,hk⟩;(first|obtain ⟨p,rfl⟩:=Zone.gro_of_gro _ _ hk|obtain ⟨p,rfl⟩:=Zone.gro_of_below _ hk);clear hk)|(go_at_call 149;refine (HF.out _ (H.out.keep (HK.out.trans (by repeat first|exact kp0|apply kp1|apply kp2|apply kp3|apply kp4)))).mono ?_;rintro e w' ⟨rfl,hk⟩;(first|obtain ⟨p,rfl⟩:=Zone.gro_of_gro _ _ hk|obtain ⟨p,rfl⟩:=Zone.gro_of_below _ hk);clear hk))
    all_goals first
    | (go_ret
       exact ⟨ret_bool (pB_no fun m=>by
         have m1:=m.kind k hlt;have m2:=(find_first cs k hlt).2 fun j hj=>m.one k j hlt hj
         first|omega|(simp only [m2,bne_self_eq_false,Bool.false_eq_true,or_false] at *;omega)).symm,HK.out.trans (by repeat first|exact kp0|apply kp1|apply kp2|apply kp3|apply kp4)⟩)
    | (go_roundw
       case rel=>exact ⟨k+1,by omega,by go_num,HK.out.trans (by repeat first|exact kp0|apply kp1|apply kp2|apply kp3|apply kp4),fun j hj hjk=>by
         by_cases e:j=k
         ·subst e;refine ⟨pB_iff.1 HQ.out,by omega,?_⟩;simp only [bne_eq_false_iff_eq] at *;omega
         ·exact HR.out j hj (by omega)⟩
       case measure=>simp [intOf];omega)
  ·go_wp2
   all_goals go_ret
   all_goals refine ⟨?_,HK.out⟩
   ·by_cases h2:(cs.length:Int)≤256
    ·rw [pB_yes ⟨fun i hi=>(HR.out i hi (by omega)).1,fun i hi=>(HR.out i hi (by omega)).2.1,fun i j hi hj=>(find_first cs i hi).1 (HR.out i hi (by omega)).2.2 j hj,by omega,by omega⟩];simp [h2]
    ·rw [pB_no fun m=>h2 (by have:=m.hi;omega)];simp [h2]
   ·exact ret_bool (pB_no fun m=>by have:=m.lo;omega).symm
theorem indexI_any(A:Option Addr)(c:Nat)(xs:List Int)(n:Int)(w:World)(h:Sl w 1 i64V A c xs) :
 Calls Tryz.prog 150 #[.slice A xs.length c,.int .i64 n] w fun e w'=>e=.returned (.int .i64 (idxP (fun x=>n==x) xs 0))∧Keep w w':=by
 have hl:=sl_len h;go_enter Tryz.func150,Tryz.ntmps150;go_wp2;go_loop [5,8] (fun _ i=>∃ k:Nat,k≤xs.length∧i=.int .i64 k∧Hid (∀ j,(h:j<xs.length)→j<k→(n==xs[j])=false)) (fun _ i=>xs.length-(intOf i).toNat)
 case atStart=>exact ⟨0,Nat.zero_le _,rfl,fun j _ hj=>absurd hj (Nat.not_lt_zero _)⟩
 case round =>
  obtain ⟨k,hk,rfl,HR⟩:=hrel
  by_cases hlt:k<xs.length
  ·obtain ⟨b,off,rfl,hb,h0⟩:=sl_i64 h k hlt;clear h
   cases hq:(n==xs[k])
   ·have hq2:=hq;have HQ:=lh hq;clear hq;go_wp2;go_round
    case rel=>exact ⟨k+1,by omega,by go_num,fun j hj hjk=>by
     by_cases e:j=k
     ·subst e;exact HQ.out
     ·exact HR.out j hj (by omega)⟩
    case measure=>simp [intOf];omega
   ·have hq2:=hq;have HQ:=lh hq;clear hq;go_wp2;go_ret;exact ⟨ret_int (by rw [idxP_at _ xs 0 k HR.out,List.drop_eq_getElem_cons hlt];simp only [idxP,HQ.out,if_true];omega),(by repeat first|exact kp0|apply kp1|apply kp2|apply kp3|apply kp4)⟩
  ·go_wp2;go_ret;exact ⟨ret_int (by rw [idxP_at _ xs 0 xs.length fun j hj _=>HR.out j hj (by omega)];simp [idxP]),(by repeat first|exact kp0|apply kp1|apply kp2|apply kp3|apply kp4)⟩
theorem contI_any(A:Option Addr)(c:Nat)(xs:List Int)(n:Int)(w:World)(h:Sl w 1 i64V A c xs) :
 Calls Tryz.prog 101 #[.slice A xs.length c,.int .i64 n] w fun e w'=>e=.returned (.bool (xs.any fun x=>n==x))∧Keep w w':=by
 have HH:=lh h;clear h;rw [← idxP_any _ xs 0];go_enter Tryz.func101,Tryz.ntmps101;go_wp2_with (go_at_call 150;refine (indexI_any A c xs n _ HH.out).mono ?_;rintro e w' ⟨rfl,hk⟩;(first|obtain ⟨p,rfl⟩:=Zone.gro_of_gro _ _ hk|obtain ⟨p,rfl⟩:=Zone.gro_of_below _ hk);clear hk);go_ret;exact ⟨rfl,(by repeat first|exact kp0|apply kp1|apply kp2|apply kp3|apply kp4)⟩
theorem flagged_any(A B:Option Addr)(c d:Nat)(cs:List Col)(fs:List Bool)(w:World)(h:Sl w 2 Col.cells A c cs)(hf:Sl w 1 flV B d fs) :
 Calls Tryz.prog 100 #[.slice A cs.length c,.slice B fs.length d] w fun e w'=>e=.returned (.bool (pB (FlagP cs fs)))∧Keep w w':=by
 have hl:=sl_len h;have hl2:=sl_len hf;have H:=lh h;have HF:=lh hf;clear h hf;go_enter Tryz.func100,Tryz.ntmps100;go_wp2;go_loopw [9] (fun i wr=>∃ k:Nat,k≤fs.length∧i=.int .i64 k∧Hid (Keep w wr)∧Hid (∀ j,(h:j<fs.length)→j<k→fs[j]=true→dimP cs (j:Int)=true)) (fun i _=>fs.length-(intOf i).toNat)
 case atStart=>exact ⟨0,Nat.zero_le _,rfl,Keep.refl _,fun j _ hj=>absurd hj (Nat.not_lt_zero _)⟩
 case round =>
  obtain ⟨k,hk,rfl,HK,HR⟩:=hrel
  by_cases hlt:k<fs.length
  ·obtain ⟨b,off,hA,hb,h0⟩:=sl_fl (HF.out.keep HK.out) k hlt;have HD:=lh (fun W (hW:Keep w W)=>dim_any A c cs (k:Int) W (H.out.keep hW));subst hA
   cases hq:fs[k]
   ·have HQ:=lh hq;rw [hq] at h0;clear hq;go_wp2;go_roundw
    case rel=>exact ⟨k+1,by omega,by go_num,HK.out,fun j hj hjk hx=>by
     by_cases e:j=k
     ·subst e;have:=HQ.out;rw [hx] at this
      cases this
     ·exact HR.out j hj (by omega) hx⟩
    case measure=>simp [intOf];omega
   ·have HQ:=lh hq;rw [hq] at h0;clear hq
    cases hd:dimP cs (k:Int)
    ·have HX:=lh hd;go_wp2_with (go_at_call 32;refine (HD.out _ (HK.out.trans (by repeat first|exact kp0|apply kp1|apply kp2|apply kp3|apply kp4))).mono ?_;rintro e w' ⟨rfl,hk⟩;(first|obtain ⟨p,rfl⟩:=Zone.gro_of_gro _ _ hk|obtain ⟨p,rfl⟩:=Zone.gro_of_below _ hk);clear hk);go_ret;exact ⟨ret_bool (pB_no fun m=>by
      have:=HX.out;rw [m.ok k (by simp [hlt,HQ.out])] at this
      cases this).symm,HK.out.trans (by repeat first|exact kp0|apply kp1|apply kp2|apply kp3|apply kp4)⟩
    ·have HX:=lh hd;go_wp2_with (go_at_call 32;refine (HD.out _ (HK.out.trans (by repeat first|exact kp0|apply kp1|apply kp2|apply kp3|apply kp4))).mono ?_;rintro e w' ⟨rfl,hk⟩;(first|obtain ⟨p,rfl⟩:=Zone.gro_of_gro _ _ hk|obtain ⟨p,rfl⟩:=Zone.gro_of_below _ hk);clear hk);go_roundw
     case rel=>exact ⟨k+1,by omega,by go_num,HK.out.trans (by repeat first|exact kp0|apply kp1|apply kp2|apply kp3|apply kp4),fun j hj hjk hx=>by
      by_cases e:j=k
      ·subst e;exact HX.out
      ·exact HR.out j hj (by omega) hx⟩
     case measure=>simp [intOf];omega
  ·have hok:Hid (∀ i:Nat,fs.getD i false=true→dimP cs (i:Int)=true):=fun i hi=>by
    by_cases hil:i<fs.length
    ·exact HR.out i hil (by omega) (by simpa [hil] using hi)
    ·simp [Nat.le_of_not_lt hil] at hi
   have hp:Hid (FlagP cs fs↔(fs.length=0∨fs.length=cs.length)):=⟨fun m=>m.len,fun m=>⟨m,hok.out⟩⟩;go_wp2
   all_goals go_ret
   all_goals refine ⟨?_,HK.out⟩
   ·exact ret_bool (pB_yes (hp.out.2 (.inl (by simp_all)))).symm
   ·exact ret_bool (by rw [Bool.eq_iff_iff,pB_iff,hp.out];simp only [Bool.or_eq_true,beq_iff_eq];omega)
structure Cfg where
 sort:Int
 iA:Option Addr
 ic:Nat
 inv:List Bool
 rA:Option Addr
 rc:Nat
 rng:List Bool
 sA:Option Addr
 sc:Nat
 split:List Int
 leaf:Int
def Cfg.cells(c:Cfg):List Value:=[.int .i64 c.sort,.slice c.iA c.inv.length c.ic,.slice c.rA c.rng.length c.rc,.slice c.sA c.split.length c.sc,.int .i64 c.leaf]
@[reducible] def Cfg.v(c:Cfg):Value:=.agg #[.int .i64 c.sort,.slice c.iA c.inv.length c.ic,.slice c.rA c.rng.length c.rc,.slice c.sA c.split.length c.sc,.int .i64 c.leaf]
structure CfgAt(w:World)(c:Cfg):Prop where
 i:Sl w 1 flV c.iA c.ic c.inv
 r:Sl w 1 flV c.rA c.rc c.rng
 s:Sl w 1 i64V c.sA c.sc c.split
theorem CfgAt.keep{w w':World}{c:Cfg}(h:CfgAt w c)(hk:Keep w w'):CfgAt w' c:=⟨h.i.keep hk,h.r.keep hk,h.s.keep hk⟩
def Fits(l:List Col)(c:Cfg):Prop:=FitsP l c.sort c.inv c.rng c.split c.leaf
theorem fits_iff(l:List Col)(c:Cfg):Fits l c↔MayP l∧(c.sort= -1∨dimP l c.sort=true)∧FlagP l c.inv∧FlagP l c.rng∧(∀ j,(h:j<c.split.length)→dimP l c.split[j]=true∧(c.split.take j).any (fun x=>c.split[j]==x)=false)∧c.split.length≤8∧1≤c.leaf∧c.leaf≤1000000:=by
 constructor
 ·intro f;refine ⟨f.may,f.sort,f.inv,f.rng,fun j h=>⟨f.split j h,?_⟩,f.few,f.lo,f.hi⟩;rw [List.any_eq_false];intro x hx;obtain ⟨k,hk,rfl⟩:=List.getElem_of_mem hx;simp only [List.length_take] at hk;have:=f.one j k h (by omega);simp only [List.getElem_take,beq_iff_eq];exact fun e=>this e.symm
 ·rintro ⟨h1,h2,h3,h4,h5,h6,h7,h8⟩;refine ⟨h1,h2,h3,h4,fun j h=>(h5 j h).1,fun j k h hk e=>?_,h6,h7,h8⟩;have:=(h5 j h).2;rw [List.any_eq_false] at this;have hm:c.split[k]'(by omega)∈c.split.take j:=by
   rw [List.mem_take_iff_getElem];exact ⟨k,by omega,rfl⟩
  have:=this _ hm;simp [e] at this
structure BoxC(w W:World)(d e:Value):Prop where
 keep:Keep w W
 lt:w.heap.size<W.heap.size
 c3:W.cell? ⟨w.heap.size,3,none⟩=some d
 c4:W.cell? ⟨w.heap.size,4,none⟩=some e
theorem BoxC.start{w W:World}{a b c d e:Value}{t:TypeId}(hW:Keep (w.alloc (.cells #[a,b,c,d,e] t)) W):BoxC w W d e :=
 ⟨(Keep.alloc (Keep.refl w) _).trans hW,Nat.lt_of_lt_of_le (by simp) hW.size,(hW.cell (p:=⟨w.heap.size,3,none⟩) (by simp [go_sem])).trans (by simp [go_sem]),(hW.cell (p:=⟨w.heap.size,4,none⟩) (by simp [go_sem])).trans (by simp [go_sem])⟩
theorem BoxC.next{w W W':World}{d e:Value}(h:BoxC w W d e)(hk:Keep W W'):BoxC w W' d e :=
 ⟨h.keep.trans hk,Nat.lt_of_lt_of_le h.lt hk.size,(hk.cell (p:=⟨w.heap.size,3,none⟩) h.lt).trans h.c3,(hk.cell (p:=⟨w.heap.size,4,none⟩) h.lt).trans h.c4⟩
theorem fits_any(A:Option Addr)(n:Nat)(cs:List Col)(c:Cfg)(w:World)(h:Sl w 2 Col.cells A n cs)(hz:∀ x∈cs,x.name.size≤140737488355328)(hc:CfgAt w c) :
 Calls Tryz.prog 55 #[.slice A cs.length n,c.v] w fun e w'=>e=.returned (.bool (pB (Fits cs c)))∧Keep w w':=by
 obtain ⟨s0,iA,ic,iv,rA,rc,rv,sA,sc,sp,lf⟩:=c;have hl:=sl_len h;have hl2:=sl_len hc.s;have hl3:=sl_len hc.i;have hl4:=sl_len hc.r;have HI:=lh (fits_iff cs ⟨s0,iA,ic,iv,rA,rc,rv,sA,sc,sp,lf⟩);have HM:=lh (fun W (hW:Keep w W)=>smay_any A n cs W (h.keep hW) hz);have HD:=lh (fun W (hW:Keep w W) (i:Int)=>dim_any A n cs i W (h.keep hW));have HF1:=lh (fun W (hW:Keep w W)=>flagged_any A iA n ic cs iv W (h.keep hW) (hc.i.keep hW));have HF2:=lh (fun W (hW:Keep w W)=>flagged_any A rA n rc cs rv W (h.keep hW) (hc.r.keep hW));have HS:=lh hc.s;have hcap:=hc.s.cap;have hbig:=hc.s.big;simp only [Cfg.v];clear h hc
 cases hq1:pB (MayP cs)
 ·have HQ:=lh hq1;go_enter Tryz.func55,Tryz.ntmps55;go_wp2_with (go_at_call 99;refine (HM.out _ (by repeat first|exact kp0|apply kp1|apply kp2|apply kp3|apply kp4)).mono ?_;rintro e w' ⟨rfl,hk⟩;(first|obtain ⟨p,rfl⟩:=Zone.gro_of_gro _ _ hk|obtain ⟨p,rfl⟩:=Zone.gro_of_below _ hk);clear hk);go_ret;exact ⟨ret_bool (pB_no fun f=>by have:=HQ.out;rw [pB_yes (HI.out.1 f).1] at this;cases this).symm,(by repeat first|exact kp0|apply kp1|apply kp2|apply kp3|apply kp4)⟩
 ·have HQ:=lh hq1
  by_cases hs:s0= -1∨dimP cs s0=true
  ·have HSO:=lh hs;have hs':s0= -1∨(¬ s0= -1∧dimP cs s0=true):=by
    by_cases e:s0= -1
    ·exact .inl e
    ·exact .inr ⟨e,hs.resolve_left e⟩
   clear hs
   cases hq2:pB (FlagP cs iv)
   ·have HQ2:=lh hq2
    rcases hs' with hs | ⟨hs1,hs2⟩
    ·go_enter Tryz.func55,Tryz.ntmps55;go_wp2_with (first|(go_at_call 99;refine (HM.out _ (by repeat first|exact kp0|apply kp1|apply kp2|apply kp3|apply kp4)).mono ?_;rintro e w' ⟨rfl,hk⟩;(first|obtain ⟨p,rfl⟩:=Zone.gro_of_gro _ _ hk|obtain ⟨p,rfl⟩:=Zone.gro_of_below _ hk);clear hk)|(go_at_call 100;with_reducible refine (HF1.out _ (by repeat first|exact kp0|apply kp1|apply kp2|apply kp3|apply kp4)).mono ?_;rintro e w' ⟨rfl,hk⟩;(first|obtain ⟨p,rfl⟩:=Zone.gro_of_gro _ _ hk|obtain ⟨p,rfl⟩:=Zone.gro_of_below _ hk);clear hk));go_ret;exact ⟨ret_bool (pB_no fun f=>by have:=HQ2.out;rw [pB_yes (HI.out.1 f).2.2.1] at this;cases this).symm,(by repeat first|exact kp0|apply kp1|apply kp2|apply kp3|apply kp4)⟩
    ·go_enter Tryz.func55,Tryz.ntmps55;go_wp2_with (first|(go_at_call 99;refine (HM.out _ (by repeat first|exact kp0|apply kp1|apply kp2|apply kp3|apply kp4)).mono ?_;rintro e w' ⟨rfl,hk⟩;(first|obtain ⟨p,rfl⟩:=Zone.gro_of_gro _ _ hk|obtain ⟨p,rfl⟩:=Zone.gro_of_below _ hk);clear hk)|(go_at_call 32;refine (HD.out _ (by repeat first|exact kp0|apply kp1|apply kp2|apply kp3|apply kp4) _).mono ?_;rintro e w' ⟨rfl,hk⟩;(first|obtain ⟨p,rfl⟩:=Zone.gro_of_gro _ _ hk|obtain ⟨p,rfl⟩:=Zone.gro_of_below _ hk);clear hk)|(go_at_call 100;with_reducible refine (HF1.out _ (by repeat first|exact kp0|apply kp1|apply kp2|apply kp3|apply kp4)).mono ?_;rintro e w' ⟨rfl,hk⟩;(first|obtain ⟨p,rfl⟩:=Zone.gro_of_gro _ _ hk|obtain ⟨p,rfl⟩:=Zone.gro_of_below _ hk);clear hk));go_ret;exact ⟨ret_bool (pB_no fun f=>by have:=HQ2.out;rw [pB_yes (HI.out.1 f).2.2.1] at this;cases this).symm,(by repeat first|exact kp0|apply kp1|apply kp2|apply kp3|apply kp4)⟩
   ·have HQ2:=lh hq2
    cases hq3:pB (FlagP cs rv)
    ·have HQ3:=lh hq3
     rcases hs' with hs | ⟨hs1,hs2⟩
     ·go_enter Tryz.func55,Tryz.ntmps55;go_wp2_with (first|(go_at_call 99;refine (HM.out _ (by repeat first|exact kp0|apply kp1|apply kp2|apply kp3|apply kp4)).mono ?_;rintro e w' ⟨rfl,hk⟩;(first|obtain ⟨p,rfl⟩:=Zone.gro_of_gro _ _ hk|obtain ⟨p,rfl⟩:=Zone.gro_of_below _ hk);clear hk)|(go_at_call 100;with_reducible refine (HF1.out _ (by repeat first|exact kp0|apply kp1|apply kp2|apply kp3|apply kp4)).mono ?_;rintro e w' ⟨rfl,hk⟩;(first|obtain ⟨p,rfl⟩:=Zone.gro_of_gro _ _ hk|obtain ⟨p,rfl⟩:=Zone.gro_of_below _ hk);clear hk)|(go_at_call 100;with_reducible refine (HF2.out _ (by repeat first|exact kp0|apply kp1|apply kp2|apply kp3|apply kp4)).mono ?_;rintro e w' ⟨rfl,hk⟩;(first|obtain ⟨p,rfl⟩:=Zone.gro_of_gro _ _ hk|obtain ⟨p,rfl⟩:=Zone.gro_of_below _ hk);clear hk));go_ret;exact ⟨ret_bool (pB_no fun f=>by have:=HQ3.out;rw [pB_yes (HI.out.1 f).2.2.2.1] at this;cases this).symm,(by repeat first|exact kp0|apply kp1|apply kp2|apply kp3|apply kp4)⟩
     ·go_enter Tryz.func55,Tryz.ntmps55;go_wp2_with (first|(go_at_call 99;refine (HM.out _ (by repeat first|exact kp0|apply kp1|apply kp2|apply kp3|apply kp4)).mono ?_;rintro e w' ⟨rfl,hk⟩;(first|obtain ⟨p,rfl⟩:=Zone.gro_of_gro _ _ hk|obtain ⟨p,rfl⟩:=Zone.gro_of_below _ hk);clear hk)|(go_at_call 32;refine (HD.out _ (by repeat first|exact kp0|apply kp1|apply kp2|apply kp3|apply kp4) _).mono ?_;rintro e w' ⟨rfl,hk⟩;(first|obtain ⟨p,rfl⟩:=Zone.gro_of_gro _ _ hk|obtain ⟨p,rfl⟩:=Zone.gro_of_below _ hk);clear hk)|(go_at_call 100;with_reducible refine (HF1.out _ (by repeat first|exact kp0|apply kp1|apply kp2|apply kp3|apply kp4)).mono ?_;rintro e w' ⟨rfl,hk⟩;(first|obtain ⟨p,rfl⟩:=Zone.gro_of_gro _ _ hk|obtain ⟨p,rfl⟩:=Zone.gro_of_below _ hk);clear hk)|(go_at_call 100;with_reducible refine (HF2.out _ (by repeat first|exact kp0|apply kp1|apply kp2|apply kp3|apply kp4)).mono ?_;rintro e w' ⟨rfl,hk⟩;(first|obtain ⟨p,rfl⟩:=Zone.gro_of_gro _ _ hk|obtain ⟨p,rfl⟩:=Zone.gro_of_below _ hk);clear hk));go_ret;exact ⟨ret_bool (pB_no fun f=>by have:=HQ3.out;rw [pB_yes (HI.out.1 f).2.2.2.1] at this;cases this).symm,(by repeat first|exact kp0|apply kp1|apply kp2|apply kp3|apply kp4)⟩
    ·have HQ3:=lh hq3
     rcases hs' with hs1 | ⟨hs1,hs2⟩
     all_goals
         go_enter Tryz.func55,Tryz.ntmps55;go_wp2_with (first|(go_at_call 99;refine (HM.out _ (by repeat first|exact kp0|apply kp1|apply kp2|apply kp3|apply kp4)).mono ?_;rintro e w' ⟨rfl,hk⟩;(first|obtain ⟨p,rfl⟩:=Zone.gro_of_gro _ _ hk|obtain ⟨p,rfl⟩:=Zone.gro_of_below _ hk);clear hk)|(go_at_call 32;refine (HD.out _ (by repeat first|exact kp0|apply kp1|apply kp2|apply kp3|apply kp4) _).mono ?_;rintro e w' ⟨rfl,hk⟩;(first|obtain ⟨p,rfl⟩:=Zone.gro_of_gro _ _ hk|obtain ⟨p,rfl⟩:=Zone.gro_of_below _ hk);clear hk)|(go_at_call 100;with_reducible refine (HF1.out _ (by repeat first|exact kp0|apply kp1|apply kp2|apply kp3|apply kp4)).mono ?_;rintro e w' ⟨rfl,hk⟩;(first|obtain ⟨p,rfl⟩:=Zone.gro_of_gro _ _ hk|obtain ⟨p,rfl⟩:=Zone.gro_of_below _ hk);clear hk)|(go_at_call 100;with_reducible refine (HF2.out _ (by repeat first|exact kp0|apply kp1|apply kp2|apply kp3|apply kp4)).mono ?_;rintro e w' ⟨rfl,hk⟩;(first|obtain ⟨p,rfl⟩:=Zone.gro_of_gro _ _ hk|obtain ⟨p,rfl⟩:=Zone.gro_of_below _ hk);clear hk));go_loopw [39] (fun i wr=>∃ k:Nat,k≤sp.length∧i=.int .i64 k∧Hid (BoxC w wr (.slice sA sp.length sc) (.int .i64 lf))∧Hid (∀ j,(h:j<sp.length)→j<k→dimP cs sp[j]=true∧(sp.take j).any (fun x=>sp[j]==x)=false)) (fun i _=>sp.length-(intOf i).toNat)
         case atStart =>
          refine ⟨0,Nat.zero_le _,rfl,BoxC.start (t:=26) (by repeat first|exact kp0|apply kp1|apply kp2|apply kp3|apply kp4),fun j _ hj=>absurd hj (Nat.not_lt_zero _)⟩
         case round =>
          obtain ⟨k,hk,rfl,HK,HR⟩:=hrel;obtain ⟨hk0,hbs,c3,c4⟩:=HK.out;have HK0:=lh hk0;clear hk0
          by_cases hlt:k<sp.length
          ·obtain ⟨b,off,hA,hb2,h0⟩:=sl_i64 (HS.out.keep HK0.out) k hlt;have HC:=lh (fun W (hW:Keep w W)=>contI_any sA sc (sp.take k) sp[k] W ((HS.out.keep hW).cut_front k hk));have hlk:(sp.take k).length=k:=by simp;omega
           rw [hlk] at HC;subst hA
           cases hd:dimP cs sp[k]
           ·have HX:=lh hd;go_wp2_with (first|(go_at_call 32;refine (HD.out _ (HK0.out.trans (by repeat first|exact kp0|apply kp1|apply kp2|apply kp3|apply kp4)) _).mono ?_;rintro e w' ⟨rfl,hk⟩;(first|obtain ⟨p,rfl⟩:=Zone.gro_of_gro _ _ hk|obtain ⟨p,rfl⟩:=Zone.gro_of_below _ hk);clear hk));go_ret;exact ⟨ret_bool (pB_no fun f=>by have:=HX.out;rw [((HI.out.1 f).2.2.2.2.1 k hlt).1] at this;cases this).symm,HK0.out.trans (by repeat first|exact kp0|apply kp1|apply kp2|apply kp3|apply kp4)⟩
           ·have HX:=lh hd
            cases hc:(sp.take k).any fun x=>sp[k]==x
            ·have HY:=lh hc;rw [hc] at HC;go_wp2_with (first|(go_at_call 32;refine (HD.out _ (HK0.out.trans (by repeat first|exact kp0|apply kp1|apply kp2|apply kp3|apply kp4)) _).mono ?_;rintro e w' ⟨rfl,hk⟩;(first|obtain ⟨p,rfl⟩:=Zone.gro_of_gro _ _ hk|obtain ⟨p,rfl⟩:=Zone.gro_of_below _ hk);clear hk)|(go_at_call 101;refine (HC.out _ (HK0.out.trans (by repeat first|exact kp0|apply kp1|apply kp2|apply kp3|apply kp4))).mono ?_;rintro e w' ⟨rfl,hk⟩;(first|obtain ⟨p,rfl⟩:=Zone.gro_of_gro _ _ hk|obtain ⟨p,rfl⟩:=Zone.gro_of_below _ hk);clear hk));go_roundw
             case rel=>exact ⟨k+1,by omega,by go_num,HK.out.next (by repeat first|exact kp0|apply kp1|apply kp2|apply kp3|apply kp4),fun j hj hjk=>by
               by_cases e:j=k
               ·subst e;exact ⟨HX.out,HY.out⟩
               ·exact HR.out j hj (by omega)⟩
             case measure=>simp [intOf];omega
            ·have HY:=lh hc;rw [hc] at HC;go_wp2_with (first|(go_at_call 32;refine (HD.out _ (HK0.out.trans (by repeat first|exact kp0|apply kp1|apply kp2|apply kp3|apply kp4)) _).mono ?_;rintro e w' ⟨rfl,hk⟩;(first|obtain ⟨p,rfl⟩:=Zone.gro_of_gro _ _ hk|obtain ⟨p,rfl⟩:=Zone.gro_of_below _ hk);clear hk)|(go_at_call 101;refine (HC.out _ (HK0.out.trans (by repeat first|exact kp0|apply kp1|apply kp2|apply kp3|apply kp4))).mono ?_;rintro e w' ⟨rfl,hk⟩;(first|obtain ⟨p,rfl⟩:=Zone.gro_of_gro _ _ hk|obtain ⟨p,rfl⟩:=Zone.gro_of_below _ hk);clear hk));go_ret;exact ⟨ret_bool (pB_no fun f=>by have:=HY.out;rw [((HI.out.1 f).2.2.2.2.1 k hlt).2] at this;cases this).symm,HK0.out.trans (by repeat first|exact kp0|apply kp1|apply kp2|apply kp3|apply kp4)⟩
          ·have HP:=lh (show Fits cs ⟨s0,iA,ic,iv,rA,rc,rv,sA,sc,sp,lf⟩↔sp.length≤8∧1≤lf∧lf≤1000000 from
             ⟨fun f=>(HI.out.1 f).2.2.2.2.2,fun h=>HI.out.2 ⟨pB_iff.1 HQ.out,HSO.out,pB_iff.1 HQ2.out,pB_iff.1 HQ3.out,fun j hj=>HR.out j hj (by omega),h⟩⟩)
           go_wp2
           all_goals go_ret
           all_goals refine ⟨?_,HK0.out⟩
           all_goals (have HG:=HP.out;simp only [hs1] at HG ⊢;clear HP HI)
           all_goals first
           | exact ret_bool (pB_no fun f=>by have:=HG.1 f;omega).symm
           | (refine ret_bool ?_
              rw [Bool.eq_iff_iff,pB_iff,HG,decide_eq_true_iff];omega)
  ·have hs1:s0≠ -1:=fun e=>hs (.inl e);have hs2:dimP cs s0=false:=by simpa using fun e=>hs (.inr e)
   have HX:=lh hs;clear hs;go_enter Tryz.func55,Tryz.ntmps55;go_wp2_with (first|(go_at_call 99;refine (HM.out _ (by repeat first|exact kp0|apply kp1|apply kp2|apply kp3|apply kp4)).mono ?_;rintro e w' ⟨rfl,hk⟩;(first|obtain ⟨p,rfl⟩:=Zone.gro_of_gro _ _ hk|obtain ⟨p,rfl⟩:=Zone.gro_of_below _ hk);clear hk)|(go_at_call 32;refine (HD.out _ (by repeat first|exact kp0|apply kp1|apply kp2|apply kp3|apply kp4) _).mono ?_;rintro e w' ⟨rfl,hk⟩;(first|obtain ⟨p,rfl⟩:=Zone.gro_of_gro _ _ hk|obtain ⟨p,rfl⟩:=Zone.gro_of_below _ hk);clear hk));go_ret;exact ⟨ret_bool (pB_no fun f=>HX.out (HI.out.1 f).2.1).symm,(by repeat first|exact kp0|apply kp1|apply kp2|apply kp3|apply kp4)⟩
end Go.Proofs.YtpkocnpamcchcaaGreatDoor
