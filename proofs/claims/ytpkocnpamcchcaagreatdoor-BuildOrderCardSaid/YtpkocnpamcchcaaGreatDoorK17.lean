/- Parts of the proof. -/
import Derived.Test.YtpkocnpamcchcaaGreatDoorK14
set_option maxRecDepth 100000
set_option maxHeartbeats 4000000
set_option linter.unusedSimpArgs false
set_option linter.unusedVariables false
set_option linter.unnecessarySimpa false
namespace Go.Proofs.YtpkocnpamcchcaaGreatDoor
open Go.RowKit Go.Zone Go.Shelf
attribute [local go_sem] zone stepZ fill lookFs goes goesUpon dropFs cell_gro frozen_gro size_gro lt_add drew_gro tape_gro keep_refl
attribute [local go_sem] lt_add2 lt_add3 lt_add4 lt_add5 lt_add6 lt_add7 lt_add8 lt_add9 lt_add10 lt_add11 lt_add12
theorem row_grown{w w':World}{g:Nat}{T:TypeId}{vs:List Value}{row:Option Nat}(r:Row w g T vs)(hg:w.grownBy w' row)(hn:row≠some g):Row w' g T vs:=(hg.block g r.lt (fun e=>hn e.symm)).trans r
def le64(n:Int):List UInt8:=le (n%18446744073709551616).toNat 8
theorem le64_len(n:Int):(le64 n).length=8:=le_len _ _
theorem flat64_len:∀ l:List Int,(l.flatMap le64).length=l.length*8
 | []=>rfl
 | x :: r=>by simp only [List.flatMap_cons,List.length_append,flat64_len r,le64_len,List.length_cons];omega
theorem mput_any(w0:World)(gb n size:Nat)(v:Value)(bs:List UInt8)(w:World)(hn:n<18446744073709551616)(hs:size≤8)(hk:Keep w0 w)(hg:w0.heap.size≤gb)(hr:Row w gb 31 [v])(ho:OwnB w w0.heap.size v bs)(hl:bs.length≤1000000000000) :
 Calls Tryz.prog 112 #[.int .u64 n,.int .i64 size,.pointer (some ⟨gb,0,none⟩)] w fun e w'=>e=.returned (.tuple #[])∧∃ v',Row w' gb 31 [v']∧OwnB w' w0.heap.size v' (bs++le n size)∧Keep w0 w':=by
 have HR:=lh hr;have HO:=lh ho;have HK:=lh hk;clear hr ho hk;go_enter Tryz.func112,Tryz.ntmps112;go_wp2;go_loopw [0,6] (fun vn vi wr=>∃ (k m:Nat) (o:Value),k≤size∧m<18446744073709551616∧vn=.int .u64 m∧vi=.int .i64 k∧Hid (m=n/256^k)∧Hid (Row wr gb 31 [o])∧Hid (OwnB wr w0.heap.size o (bs++le n k))∧Hid (Keep w0 wr)) (fun _ vi _=>size-(intOf vi).toNat)
 case atStart=>exact ⟨0,n,v,Nat.zero_le _,hn,rfl,rfl,(by show _=_;simp),HR.out,(by show OwnB _ _ _ _;simp only [le,List.append_nil];exact HO.out),HK.out⟩
 case round =>
  clear HR HO HK;obtain ⟨k,m,o,hk,hm,rfl,rfl,HM,HR,HO,HK⟩:=hrel
  by_cases hlt:k<size
  ·have x0:=HR.out.cell 0 _ rfl;have hb:=HR.out.lt;go_wp2_with (at_builtin;refine hold ?_);refine unhold ?_;have HO3:OwnB (wr.alloc (.cells #[.int .u8 ((m:Int)%256)] 5)) w0.heap.size o (bs++le n k):=HO.out.keep (Keep.alloc (Keep.refl _) _);have HR3:Row (wr.alloc (.cells #[.int .u8 ((m:Int)%256)] 5)) gb 31 [o]:=HR.out.keep (Keep.alloc (Keep.refl _) _);refine wpList_app elt_u8 b8_len b8_one rfl (.tmp 8) (.tmp 11) rfl (ys:=[UInt8.ofNat m]) HO3 rfl rfl (sl_one _ (by omega) (by omega) (b8_at _ (by rw [u8_nat];simp [go_sem]))) (by simp [le_len];omega) (by have:=HK.out.size;simp;omega) ?_;intro v1 w2 hown2 hg2 _;obtain ⟨A1,c1,rfl⟩:=own_form hown2;generalize (bs++le n k++[UInt8.ofNat m]).length=L1 at hown2;have ⟨a1,a2,a3⟩:=HO3.after hg2 (HK.out.trans (by repeat first|exact kp0|apply kp1|apply kp2|apply kp3|apply kp4)) (Nat.le_refl _);have hr2:Row w2 gb 31 [o]:=row_grown HR3 hg2 (own_row_ne HO3 HR3 (by decide));have HO4:=lh hown2;have HA1:=lh a1;have HR4:=lh hr2;have y0:=hr2.cell 0 _ rfl;have hb2:=hr2.lt;have q0:=hr2.soft 0;have hm2:m/256<18446744073709551616:=by omega
   have HNE:=lh (own_row_ne hown2 hr2 (by decide));clear hown2 hg2 HO3 HR3 a1 a2 a3 hr2 x0 hb;go_wp2;go_roundw
   case rel=>exact ⟨k+1,m/256,_,by omega,hm2,by go_num,by go_num,(by show _=_;rw [HM.out,Nat.div_div_eq_div_mul,Nat.pow_succ]),HR4.out.set 0 _,(by
    show OwnB _ _ _ _;have h:=Zone.Own.turn HO4.out (Turn.set w2 ⟨gb,0,none⟩ (.slice A1 L1 c1)) (fun i hi=>by simp only [List.mem_singleton] at hi;subst hi;exact HNE.out);rw [HM.out,List.append_assoc] at h;exact h),HA1.out.setCell hg _⟩
   case measure=>simp [intOf];omega
  ·have hks:k=size:=by omega
   subst hks;go_wp2;go_end0;exact ⟨rfl,o,HR.out,HO.out,HK.out⟩
structure MetAt(w:World)(b:Nat)(A:Option Addr)(c:Nat)(xs:List Int)(lo hi:Int):Prop where
 l:w.cell? ⟨b,0,none⟩=some (.slice A xs.length c)
 lo_:w.cell? ⟨b,1,none⟩=some (.int .i64 lo)
 hi_:w.cell? ⟨b,2,none⟩=some (.int .i64 hi)
 m:w.cell? ⟨b,3,none⟩=some (.bool true)
 sl:Sl w 1 i64V A c xs
theorem MetAt.keep{w w':World}{b c:Nat}{A:Option Addr}{xs:List Int}{lo hi:Int}(h:MetAt w b A c xs lo hi)(hk:Keep w w'):MetAt w' b A c xs lo hi :=
 ⟨(hk.cell (p:=⟨b,0,none⟩) (block_lt_of_cell h.l)).trans h.l,(hk.cell (p:=⟨b,1,none⟩) (block_lt_of_cell h.lo_)).trans h.lo_,(hk.cell (p:=⟨b,2,none⟩) (block_lt_of_cell h.hi_)).trans h.hi_,(hk.cell (p:=⟨b,3,none⟩) (block_lt_of_cell h.m)).trans h.m,h.sl.keep hk⟩
def loF(xs:List Int):Int:=xs.foldl min 9223372036854775807
def hiF(xs:List Int):Int:=xs.foldl max (-9223372036854775808)
def metF(xs:List Int):List UInt8:=le xs.length 4++le64 (loF xs)++le64 (hiF xs)++xs.flatMap le64
theorem set2_turn(w:World)(g i j:Nat)(u v:Value):Turn w ((w.setCell ⟨g,i,none⟩ u).setCell ⟨g,j,none⟩ v) [g]:=(Turn.set w ⟨g,i,none⟩ u).trans (Turn.set _ ⟨g,j,none⟩ v)
theorem wpList_copy_k{α:Type}{P:Program}{ops:Array Oper}{o:Oper}{rest:List Oper}{a:Act}{w:World}{Q:Exit→Act→World→Prop}(hgd:o.guard=none)(d s:Operand)(dT sT elem:TypeId)
 (ho:o.op=.call { callee:=.builtin .copy,args:=#[d,s],argTypes:=#[dT,sT] }) {k:Nat} (hu:P.underlying dT=some (.slice elem)) (hs:(P.info? elem).map (·.size)=some k)
 {enc:α→List Value} (hk:∀ x,(enc x).length=k) (h1:∀ x,∀ u∈enc x,u.oneCell'=true) {g dCap sCap n:Nat} {A:Option Addr} {xs:List α} {t:TypeId} {cur:List Value} (hd:a.eval d=.slice (some ⟨g,0,none⟩) n dCap) (hsv:a.eval s=.slice A n sCap) (hn:n=xs.length)
 (hx:Sl w k enc A sCap xs) (hg:Row w g t cur) (hc:cur.length=n*k)
 (h:∀ w',Row w' g t (xs.flatMap enc)→Turn w w' [g]→wpList P ops Q rest (a.put o.dst (goInt n)) w'):wpList P ops Q (o :: rest) a w :=
 wpList_plain hgd fun K hK=>by
  have:=step_copy_k (ops:=ops) (K:=K) (Q:=Q) (N:=True) hgd d s dT sT elem ho hu hs hk h1 hd hsv hn hx hg hc (fun w' a1 a2=>hK _ _ (h w' a1 a2))
  rwa [if_pos (by simp [Region.wanted,hgd])] at this
theorem i64_len(x:Int):(i64V x).length=1:=rfl
theorem i64_one(x:Int):∀ u∈i64V x,u.oneCell'=true:=fun u hu=>by simp [i64V] at hu;subst hu;rfl
theorem info_int64:(Tryz.prog.info? 2).map (fun i=>(i.zero,i.size,i.bytes))=some (some (.int .i64 0),1,8):=by kernel_rfl
theorem int64_size:(Tryz.prog.info? 2).map (·.size)=some 1:=by kernel_rfl
theorem made_i64(n:Nat)(W:World)(hn:n≤1000000000) :
 ∃ W',(Instr.makeSlice 54 (.int .i64 (n:Int)) (.int .i64 (n:Int))).run Tryz.prog W=.ok (.slice (some ⟨W.heap.size,0,none⟩) n n) W'∧Row W' W.heap.size 2 (List.replicate n (.int .i64 0))∧Keep W W':=by
 obtain ⟨i,hi,h1,h2,h3⟩:=info_parts info_int64;have hr:=run_make (P:=Tryz.prog) W 54 2 i _ Tryz.underlying54 hi h1 .i64 .i64 (n:Int) (n:Int) (by omega) (by omega) (by rw [h3];omega) (by omega);rw [Int.toNat_natCast,h2] at hr;refine ⟨_,hr,?_,Keep.alloc (Keep.refl _) _⟩;have e:(madeCells (Value.int .i64 0).cells (n*1))=(List.replicate n (Value.int .i64 0)).toArray:=by
  apply Array.ext
  ·simp [madeCells]
  ·intro i h1 h2;simp [madeCells,Value.cells,Nat.mod_one]
 rw [e];exact row_alloc _ _ _
theorem fold_take{β:Type}(f:β→Int→β)(z:β)(xs:List Int)(k:Nat)(h:k<xs.length):(xs.take (k+1)).foldl f z=f ((xs.take k).foldl f z) xs[k]:=by
 rw [List.take_succ_eq_append_getElem h,List.foldl_append];rfl
theorem mof_any(A:Option Addr)(c:Nat)(xs:List Int)(w:World)(h:Sl w 1 i64V A c xs)(hl:xs.length≤16777216) :
 Calls Tryz.prog 67 #[.slice A xs.length c] w fun e w'=>∃ b A' c',e=.returned (.tuple #[.pointer (some ⟨b,0,none⟩),.int .i64 0])∧MetAt w' b A' c' xs (loF xs) (hiF xs)∧Keep w w':=by
 have H:=lh h;have hcap:=h.cap;generalize hn:xs.length=n at hl hcap;have HN:=lh hn;obtain ⟨W',hmk,hrow,hk⟩:=made_i64 n w (by omega);have HR:=lh hrow;have HK:=lh hk;have HGZ:=lh (show w.heap.size<W'.heap.size from hrow.lt);have HGW:=lh (Nat.le_refl w.heap.size);have hd:decide ((16777216:Int)<(n:Int))=false:=by simp;omega
 clear h hrow hk hn;generalize hg:w.heap.size=g at HR hmk HGZ;have HG:=lh hg;clear hg;go_enter Tryz.func67,Tryz.ntmps67;go_wp2_with (with_reducible refine Zone.hold_at 20 ?_);refine unhold ?_;clear hmk;have hRB:Row (W'.alloc (.cells #[.slice (some ⟨g,0,none⟩) n n,.int .i64 9223372036854775807,.int .i64 (-9223372036854775808),.bool true] 180)) W'.heap.size 180 [.slice (some ⟨g,0,none⟩) n n,.int .i64 9223372036854775807,.int .i64 (-9223372036854775808),.bool true]:=row_alloc _ _ _;have hKB:Keep W' (W'.alloc (.cells #[.slice (some ⟨g,0,none⟩) n n,.int .i64 9223372036854775807,.int .i64 (-9223372036854775808),.bool true] 180)):=Keep.alloc (Keep.refl _) _;generalize W'.alloc (.cells #[.slice (some ⟨g,0,none⟩) n n,.int .i64 9223372036854775807,.int .i64 (-9223372036854775808),.bool true] 180)=wb at hRB hKB ⊢;have HBZ:=lh (show w.heap.size≤W'.heap.size from HK.out.size);generalize W'.heap.size=b at hRB HGZ HBZ ⊢;have HRB:=lh hRB;have HKB:=lh hKB;clear hRB hKB;refine wpList_copy_k rfl (.tmp 18) (.tmp 19) 54 54 2 rfl Tryz.underlying54 int64_size i64_len i64_one rfl rfl HN.out.symm (H.out.keep (HK.out.trans HKB.out)) (HR.out.keep HKB.out) (by simp) ?_;intro w3 hr3 ht3;have HR3:=lh hr3;have HB3:=lh (ht3.row HRB.out (by have:=HGZ.out;simp;omega));have HK3:=lh (Turn.after (HK.out.trans HKB.out) ht3 (fun i hi=>by simp only [List.mem_singleton] at hi;rw [hi];exact Nat.le_of_eq HG.out));clear hr3 ht3;go_wp2
 go_loopw [23] (fun vi wr=>∃ k:Nat,k≤n∧vi=.int .i64 k∧Hid (Row wr b 180 [.slice (some ⟨g,0,none⟩) n n,.int .i64 (loF (xs.take k)),.int .i64 (hiF (xs.take k)),.bool true])∧Hid (Turn w3 wr [b])) (fun vi _=>n-(intOf vi).toNat)
 case atStart=>exact ⟨0,Nat.zero_le _,rfl,HB3.out,Turn.refl _ _⟩
 case round =>
  obtain ⟨k,hk,rfl,HB,HT⟩:=hrel;have HKW:=lh (Turn.after HK3.out HT.out (fun i hi=>by simp only [List.mem_singleton] at hi;rw [hi];exact HBZ.out))
  by_cases hlt:k<n
  ·have hlt2:k<xs.length:=by rw [HN.out];exact hlt
   obtain ⟨bA,off,hA,hb,h0⟩:=sl_i64 (H.out.keep HKW.out) k hlt2;subst hA;have x1:=HB.out.cell 1 _ rfl;have x2:=HB.out.cell 2 _ rfl;have hbl:=HB.out.lt;have q1:=HB.out.soft 1;have q2:=HB.out.soft 2;have HLO:=lh (show loF (xs.take (k+1))=min (loF (xs.take k)) xs[k] from fold_take _ _ _ _ hlt2);have HHI:=lh (show hiF (xs.take (k+1))=max (hiF (xs.take k)) xs[k] from fold_take _ _ _ _ hlt2);generalize loF (xs.take k)=lo at HB HLO x1;generalize hiF (xs.take k)=hi at HB HHI x2;generalize xs[k]=x at h0 HLO HHI;have HR2:=lh ((HB.out.set 1 (.int .i64 (min lo x))).set 2 (.int .i64 (max hi x)));have HT2:=lh (set2_turn wr b 1 2 (.int .i64 (min lo x)) (.int .i64 (max hi x)));go_wp2;go_region;generalize hW:(wr.setCell ⟨b,1,none⟩ (.int .i64 (min lo x))).setCell ⟨b,2,none⟩ (.int .i64 (max hi x))=w4 at HR2 HT2 ⊢;clear hW;go_wp2;go_roundw
   case rel=>exact ⟨k+1,by omega,by go_num,(by show Row _ _ _ _;rw [HLO.out,HHI.out];exact HR2.out.keep (by repeat first|exact kp0|apply kp1|apply kp2|apply kp3|apply kp4)),HT.out.trans (HT2.out.trans (Turn.keep (by repeat first|exact kp0|apply kp1|apply kp2|apply kp3|apply kp4) _))⟩
   case measure=>simp [intOf];omega
  ·have hkn:k=n:=by omega
   subst hkn;rw [← HN.out,List.take_length] at HB;go_wp2;exact bodyPost_ret (v:=.tuple #[.pointer (some ⟨b,0,none⟩),.int .i64 0]) (by simp [results,Tryz.results67,go_sem]) rfl
    ⟨b,some ⟨g,0,none⟩,xs.length,rfl,⟨HB.out.cell 0 _ rfl,HB.out.cell 1 _ rfl,HB.out.cell 2 _ rfl,HB.out.cell 3 _ rfl,(HT.out.row HR3.out (by have:=HGZ.out;simp;omega)).sl_blk i64_len (by have:=HN.out;omega) (Nat.le_refl _) (by have:=HN.out;omega)⟩,HKW.out⟩
theorem mnone_any{b c:Nat}{A:Option Addr}{xs:List Int}{lo hi:Int}(w:World)(h:MetAt w b A c xs lo hi):Calls Tryz.prog 111 #[.pointer (some ⟨b,0,none⟩)] w fun e w'=>e=.returned (.bool false)∧Keep w w':=by
 have h2:=h.m;have hb:=block_lt_of_cell h2;clear h;go_enter Tryz.func111,Tryz.ntmps111;go_wp2;go_ret;exact ⟨rfl,(by repeat first|exact kp0|apply kp1|apply kp2|apply kp3|apply kp4)⟩
theorem mbytes_any{b c:Nat}{A:Option Addr}{xs:List Int}{lo hi:Int}(w:World)(h:MetAt w b A c xs lo hi)(hl:xs.length≤16777216) :
 Calls Tryz.prog 69 #[.pointer (some ⟨b,0,none⟩)] w fun e w'=>∃ v,e=.returned v∧OwnB w' w.heap.size v (le xs.length 4++le64 lo++le64 hi++xs.flatMap le64)∧Keep w w':=by
 have HN:=lh (mnone_any w h);have H:=lh h;generalize hn:xs.length=n at hl;have HNN:=lh hn;clear h hn;obtain ⟨t,ht⟩:∃ t,t=8*n:=⟨_,rfl⟩;obtain ⟨q,hq⟩:∃ q,q=20+t:=⟨_,rfl⟩;have e1:IntKind.i64.wrap (8*(n:Int))=(t:Int):=by rw [IntWalk.i64_in _ ⟨by omega,by omega⟩];omega
 have e2:IntKind.i64.wrap (20+(t:Int))=(q:Int):=by rw [IntWalk.i64_in _ ⟨by omega,by omega⟩];omega
 have hqq:q≤200000000:=by omega
 clear ht hq;go_enter Tryz.func69,Tryz.ntmps69;go_wp2_with (go_at_call 111;refine hold ?_);refine unhold ?_;refine HN.out.mono ?_;rintro e w1 ⟨rfl,hk1⟩;have HK1:=lh hk1;have H1:=lh (H.out.keep hk1);have x0:=H1.out.l;have hb:=block_lt_of_cell x0;rw [HNN.out] at x0;obtain ⟨i0,hi0,i1,i2,i3⟩:=info_parts info_u8;obtain ⟨W',hmk,hown,hgr⟩:=run_make_own (P:=Tryz.prog) w1 w.heap.size 31 5 i0 _ 1 Tryz.underlying31 hi0 i1 i2 .i64 .i64 q (by rw [i3];omega) (by unfold maxLen;omega) hk1.size;have HOW:=lh (show OwnB W' w.heap.size (.slice (some ⟨w1.heap.size,0,none⟩) 0 q) [] from hown);have HKM:=lh (show Keep w1 W' from ⟨hgr.os,hgr.tape,hgr.output,hgr.size,fun i hi=>hgr.block i hi (by simp)⟩);have hz1:=hk1.size;clear hown hgr hk1 i0 hi0 i1 i2 i3 HN;generalize w1.heap.size=g1 at HOW hmk hz1;go_wp2_with (with_reducible refine Zone.hold_at 17 ?_);refine unhold ?_;clear hmk;have hRB:Row (W'.alloc (.cells #[.slice (some ⟨g1,0,none⟩) 0 q] 31)) W'.heap.size 31 [.slice (some ⟨g1,0,none⟩) 0 q]:=row_alloc _ _ _;have hOB:OwnB (W'.alloc (.cells #[.slice (some ⟨g1,0,none⟩) 0 q] 31)) w.heap.size (.slice (some ⟨g1,0,none⟩) 0 q) []:=HOW.out.keep (Keep.alloc (Keep.refl _) _);have hKB:Keep w (W'.alloc (.cells #[.slice (some ⟨g1,0,none⟩) 0 q] 31)):=(HK1.out.trans HKM.out).alloc _;have hgb:w.heap.size≤W'.heap.size:=(HK1.out.trans HKM.out).size;generalize W'.alloc (.cells #[.slice (some ⟨g1,0,none⟩) 0 q] 31)=wb at hRB hOB hKB ⊢;generalize W'.heap.size=gb at hRB hgb ⊢;have HRB:=lh hRB;have HOB:=lh hOB
 have HKB:=lh hKB;have HM:=lh (fun W (hW:Keep w W)=>H.out.keep hW);have HGB:=lh hgb;clear hRB hOB hKB HOW HKM HK1 H1 x0 hb e1 e2 hqq;have x0:=(HM.out _ HKB.out).l;rw [HNN.out] at x0;have hb:=block_lt_of_cell x0;have e1:IntKind.u64.wrap (n:Int)=(n:Int):=by rw [IntKind.wrap_u64]<;>omega
 go_wp2_with (go_at_call 112;refine hold ?_);refine unhold ?_;refine (mput_any w gb n 4 _ [] wb (by omega) (by omega) HKB.out HGB.out HRB.out HOB.out (by simp)).mono ?_;rintro e w2 ⟨rfl,v2,hr2,ho2,hk2⟩;have HR2:=lh hr2;have HO2:=lh ho2;have HK2:=lh hk2;clear hr2 ho2 hk2 HRB HOB HKB x0 hb;have x1:=(HM.out _ HK2.out).lo_;have hb:=block_lt_of_cell x1;obtain ⟨m,hm⟩:∃ m,m=(lo%18446744073709551616).toNat:=⟨_,rfl⟩;have hlo:m<18446744073709551616:=by omega
 have e3:IntKind.u64.wrap lo=(m:Int):=by simp [IntKind.wrap,IntKind.signed,IntKind.bits];omega
 have HElo:=lh (show le m 8=le64 lo by rw [hm];rfl);clear hm;go_wp2_with (go_at_call 112;refine hold ?_);refine unhold ?_;refine (mput_any w gb m 8 _ _ w2 hlo (by omega) HK2.out HGB.out HR2.out HO2.out (by simp [le_len])).mono ?_;rintro e w3 ⟨rfl,v3,hr3,ho3,hk3⟩;have HR3:=lh hr3;rw [HElo.out] at ho3;have HO3:=lh ho3;have HK3:=lh hk3;clear hr3 ho3 hk3 HR2 HO2 HK2 x1 hb e3 HElo hlo;have x2:=(HM.out _ HK3.out).hi_;have hb:=block_lt_of_cell x2;obtain ⟨m,hm⟩:∃ m,m=(hi%18446744073709551616).toNat:=⟨_,rfl⟩;have hhi:m<18446744073709551616:=by omega
 have e4:IntKind.u64.wrap hi=(m:Int):=by simp [IntKind.wrap,IntKind.signed,IntKind.bits];omega
 have HEhi:=lh (show le m 8=le64 hi by rw [hm];rfl);clear hm;go_wp2_with (go_at_call 112;refine hold ?_);refine unhold ?_;refine (mput_any w gb m 8 _ _ w3 hhi (by omega) HK3.out HGB.out HR3.out HO3.out (by simp [le_len,le64_len])).mono ?_;rintro e w4 ⟨rfl,v4,hr4,ho4,hk4⟩;have HR4:=lh hr4;rw [HEhi.out] at ho4;have HO4:=lh ho4;have HK4:=lh hk4;clear hr4 ho4 hk4 HR3 HO3 HK3 x2 hb e4 HEhi hhi;have x0:=(HM.out _ HK4.out).l;rw [HNN.out] at x0;have hb:=block_lt_of_cell x0;go_wp2;go_loopw [45] (fun vi wr=>∃ (k:Nat) (o:Value),k≤n∧vi=.int .i64 k∧Hid (Row wr gb 31 [o])∧Hid (OwnB wr w.heap.size o (le n 4++le64 lo++le64 hi++(xs.take k).flatMap le64))∧Hid (Keep w wr)) (fun vi _=>n-(intOf vi).toNat)
 case atStart=>exact ⟨0,v4,Nat.zero_le _,rfl,HR4.out,(by show OwnB _ _ _ _;simpa using HO4.out),HK4.out⟩
 case round =>
  clear HR4 HO4 HK4 x0 hb;obtain ⟨k,o,hk,rfl,HR,HO,HK⟩:=hrel
  by_cases hlt:k<n
  ·have hlt2:k<xs.length:=by rw [HNN.out];exact hlt
   obtain ⟨bA,off,hA,hb,h0⟩:=sl_i64 (HM.out _ HK.out).sl k hlt2;have HTK:=lh (show (xs.take (k+1)).flatMap le64=(xs.take k).flatMap le64++le64 xs[k] by rw [List.take_succ_eq_append_getElem hlt2,List.flatMap_append];simp);have hfl:((xs.take k).flatMap le64).length≤k*8:=by rw [flat64_len,List.length_take];omega
   subst hA;generalize xs[k]=x at h0 HTK;obtain ⟨m,hm⟩:∃ m,m=(x%18446744073709551616).toNat:=⟨_,rfl⟩;have hx:m<18446744073709551616:=by omega
   have e3:IntKind.u64.wrap x=(m:Int):=by simp [IntKind.wrap,IntKind.signed,IntKind.bits];omega
   have HEx:=lh (show le m 8=le64 x by rw [hm];rfl);clear hm;have HC:=lh (mput_any w gb m 8 _ _ wr hx (by omega) HK.out HGB.out HR.out HO.out (by simp only [List.length_append,le_len,le64_len];omega));clear hfl;go_wp2_with (go_at_call 112;refine hold ?_);refine unhold ?_;refine HC.out.mono ?_;rintro e w5 ⟨rfl,v5,hr5,ho5,hk5⟩;have HR5:=lh hr5;rw [HEx.out] at ho5;have HO5:=lh ho5;have HK5:=lh hk5;clear hr5 ho5 hk5 HC;go_wp2;go_roundw
   case rel=>exact ⟨k+1,v5,by omega,by go_num,HR5.out,(by show OwnB _ _ _ _;rw [HTK.out];have:=HO5.out;rw [List.append_assoc] at this;exact this),HK5.out⟩
   case measure=>simp [intOf];omega
  ·have hkn:k=n:=by omega
   subst hkn;rw [← HNN.out,List.take_length,HNN.out] at HO;obtain ⟨A5,c5,hv5⟩:=own_form HO.out;generalize (le k 4++le64 lo++le64 hi++List.flatMap le64 xs).length=L5 at hv5;subst hv5;have x0:=HR.out.cell 0 _ rfl;have hb:=HR.out.lt;go_wp2;exact bodyPost_ret (v:=.slice A5 L5 c5) (by simp [results,Tryz.results69,go_sem]) rfl ⟨_,rfl,HO.out,HK.out⟩
def u32V(x:Nat):List Value:=[.int .u32 (x:Int)]
theorem sl_u32{w:World}{c:Nat}{A:Option Addr}{xs:List Nat}(h:Sl w 1 u32V A c xs)(i:Nat)(hi:i<xs.length):∃ b off,A=some ⟨b,off,none⟩∧b<w.heap.size∧w.cell? ⟨b,off+i,none⟩=some (.int .u32 (xs[i]:Int)):=by
 obtain ⟨b,off,hA,hc⟩:=h.at_ i hi;have h0:=hc 0 _ rfl;rw [Nat.mul_one,Nat.add_zero] at h0;exact ⟨b,off,hA,World.block_lt_of_cell? w _ h0,h0⟩
theorem sl_u32'{w:World}{c b off:Nat}{xs:List Nat}(h:Sl w 1 u32V (some ⟨b,off,none⟩) c xs)(i:Nat)(hi:i<xs.length):b<w.heap.size∧w.cell? ⟨b,off+i,none⟩=some (.int .u32 (xs[i]:Int)):=by
 obtain ⟨b',off',hA,h1,h2⟩:=sl_u32 h i hi;injection hA with hA;injection hA with e1 e2;subst e1;subst e2;exact ⟨h1,h2⟩
def Up(xs:List Nat):Prop:=∀ i j,(hij:i≤j)→(h:j<xs.length)→xs[i]'(Nat.lt_of_le_of_lt hij h)≤xs[j]
theorem nan32(k:Int)(w:World):Calls Tryz.prog 271 #[.int .u32 k] w fun e w'=>e=.returned (.bool false)∧w=w':=by
 go_enter Tryz.func271,Tryz.ntmps271;go_wp2;go_ret;exact ⟨by simp,rfl⟩
theorem less32(x y:Nat)(w:World):Calls Tryz.prog 239 #[.int .u32 (x:Int),.int .u32 (y:Int)] w fun e w'=>e=.returned (.bool (decide (x<y)))∧Keep w w':=by
 go_enter Tryz.func239,Tryz.ntmps239;go_wp2_with (go_at_call 271;refine (nan32 _ _).mono ?_;rintro e w' ⟨rfl,rfl⟩)
 all_goals go_ret
 all_goals exact ⟨by simp_all,Keep.refl _⟩
theorem ord2_any(bA off c i j n:Nat)(xs:List Nat)(p:Value)(w:World)(hn:xs.length=n)(hs:Up xs)(h:Sl w 1 u32V (some ⟨bA,off,none⟩) c xs)(hij:i≤j)(hj:j<n) :
 Calls Tryz.prog 287 #[.slice (some ⟨bA,off,none⟩) n c,.int .i64 i,.int .i64 j,p] w fun e w'=>e=.returned (.tuple #[.int .i64 i,.int .i64 j])∧Keep w w':=by
 obtain ⟨hb,h0⟩:=sl_u32' h i (by omega);obtain ⟨_,h1⟩:=sl_u32' h j (by omega);have hle:=hs i j hij (by omega);generalize xs[i]'(by omega)=x at h0 hle;generalize xs[j]'(by omega)=y at h1 hle;have HL:=lh (show ∀ W,Calls Tryz.prog 239 #[.int .u32 (y:Int),.int .u32 (x:Int)] W fun e w'=>e=.returned (.bool false)∧Keep W w' from fun W=>by
  have:=less32 y x W
  rwa [show decide (y<x)=false by simp;omega] at this)
 have hi:i<n:=by omega
 clear h hs hn hle;go_enter Tryz.func287,Tryz.ntmps287;go_wp2
 first|refine Zone.wp_region_all_gro (by kernel_rfl) (by kernel_rfl) ?_|refine Zone.wp_region_all (by kernel_rfl) (by kernel_rfl) ?_
 repeat
  refine Zone.wpZ_step (fun K hK=>?_);go_simp
  first
  | (refine hK _ _ ?_;clear hK K)
  | (apply Exists.intro
     refine ⟨fun p=>?_,hK _ _ ?_⟩
     ((go_at_call 239;exact Zone.zc (HL.out _)))
     clear hK K)
 refine Zone.wpZ_nil ?_;intro q;simp only [Zone.fill];go_wp2;exact bodyPost_ret (v:=.tuple #[.int .i64 i,.int .i64 j]) (by simp [results,Tryz.results287,go_sem]) rfl ⟨rfl,(by repeat first|exact kp0|apply kp1|apply kp2|apply kp3|apply kp4)⟩
theorem med_any(bA off c i j k n:Nat)(xs:List Nat)(p:Value)(w:World)(hn:xs.length=n)(hs:Up xs)(h:Sl w 1 u32V (some ⟨bA,off,none⟩) c xs)(hij:i≤j)(hjk:j≤k)(hk:k<n) :
 Calls Tryz.prog 270 #[.slice (some ⟨bA,off,none⟩) n c,.int .i64 i,.int .i64 j,.int .i64 k,p] w fun e w'=>e=.returned (.int .i64 j)∧Keep w w':=by
 have HO:=lh (fun W (hW:Keep w W) (a b:Nat) (hab:a≤b) (hb:b<n)=>ord2_any bA off c a b n xs p W hn hs (h.keep hW) hab hb);clear hn hs h;go_enter Tryz.func270,Tryz.ntmps270;go_wp2_with (go_at_call 287;refine hold ?_);refine unhold ?_;refine (HO.out _ (Keep.refl _) i j hij (by omega)).mono ?_;rintro e w1 ⟨rfl,hk1⟩;have HK1:=lh hk1;clear hk1;go_wp2_with (go_at_call 287;refine hold ?_);refine unhold ?_;refine (HO.out _ HK1.out j k hjk hk).mono ?_;rintro e w2 ⟨rfl,hk2⟩;have HK2:=lh (HK1.out.trans hk2);clear hk2;go_wp2_with (go_at_call 287;refine hold ?_);refine unhold ?_;refine (HO.out _ HK2.out i j hij (by omega)).mono ?_;rintro e w3 ⟨rfl,hk3⟩;have HK3:=lh (HK2.out.trans hk3);clear hk3;go_wp2;go_ret;exact ⟨rfl,HK3.out⟩
theorem medadj_any(bA off c i n:Nat)(xs:List Nat)(p:Value)(w:World)(hn:xs.length=n)(hs:Up xs)(h:Sl w 1 u32V (some ⟨bA,off,none⟩) c xs)(hi:0<i)(hk:i+1<n)(hl:n≤1000000000) :
 Calls Tryz.prog 269 #[.slice (some ⟨bA,off,none⟩) n c,.int .i64 i,p] w fun e w'=>e=.returned (.int .i64 i)∧Keep w w':=by
 obtain ⟨q,hq⟩:∃ q,q+1=i:=⟨i-1,by omega⟩;have HM:=lh (med_any bA off c q i (i+1) n xs p w hn hs h (by omega) (by omega) hk);have e1:IntKind.i64.wrap ((i:Int)-1)=(q:Int):=by rw [IntWalk.i64_in _ ⟨by omega,by omega⟩];omega
 have e2:IntKind.i64.wrap ((i:Int)+1)=((i+1:Nat):Int):=by rw [IntWalk.i64_in _ ⟨by omega,by omega⟩];omega
 clear hn hs h hq;go_enter Tryz.func269,Tryz.ntmps269;go_wp2_with (go_at_call 270;refine hold ?_);refine unhold ?_;refine HM.out.mono ?_;rintro e w1 ⟨rfl,hk1⟩;go_wp2;go_ret;exact ⟨rfl,hk1⟩
theorem insu_any(bA off c n:Nat)(xs:List Nat)(w:World)(hn:xs.length=n)(hs:Up xs)(h:Sl w 1 u32V (some ⟨bA,off,none⟩) c xs)(hl:n≤1000000000) :
 Calls Tryz.prog 233 #[.slice (some ⟨bA,off,none⟩) n c,.int .i64 0,.int .i64 n] w fun e w'=>e=.returned (.tuple #[])∧Keep w w':=by
 have H:=lh h;have HS:=lh hs;have HN:=lh hn;clear h hs hn;go_enter Tryz.func233,Tryz.ntmps233;go_wp2;go_loopw [6] (fun vi wr=>∃ i:Nat,vi=.int .i64 i∧1≤i∧Hid (Keep w wr)) (fun vi _=>n-(intOf vi).toNat)
 case atStart=>exact ⟨1,by go_num,by omega,Keep.refl _⟩
 case round =>
  obtain ⟨i,rfl,hi,HK⟩:=hrel
  by_cases hlt:i<n
  ·obtain ⟨q,hq⟩:∃ q,q+1=i:=⟨i-1,by omega⟩;obtain ⟨hb,h0⟩:=sl_u32' (H.out.keep HK.out) i (by rw [HN.out];exact hlt);obtain ⟨_,h1⟩:=sl_u32' (H.out.keep HK.out) q (by rw [HN.out];omega);have hle:=HS.out q i (by omega) (by rw [HN.out];exact hlt);generalize xs[q]'(by have:=HN.out;omega)=x at h1 hle;generalize xs[i]'(by have:=HN.out;omega)=y at h0 hle;have HL:=lh (show ∀ W,Calls Tryz.prog 239 #[.int .u32 (y:Int),.int .u32 (x:Int)] W fun e w'=>e=.returned (.bool false)∧Keep W w' from fun W=>by
    have:=less32 y x W
    rwa [show decide (y<x)=false by simp;omega] at this)
   have e1:IntKind.i64.wrap ((i:Int)-1)=(q:Int):=by rw [IntWalk.i64_in _ ⟨by omega,by omega⟩];omega
   have hq2:q<n:=by omega
   have hpos:0<i:=by omega
   clear hle hq;go_wp2;refine wp_loop_rounds 1 ?_;rw [rounds_succ];go_wp2
   first|refine Zone.wp_region_all_gro (by kernel_rfl) (by kernel_rfl) ?_|refine Zone.wp_region_all (by kernel_rfl) (by kernel_rfl) ?_
   repeat
    refine Zone.wpZ_step (fun K hK=>?_);go_simp
    first
    | (refine hK _ _ ?_;clear hK K)
    | (apply Exists.intro
       refine ⟨fun p=>?_,hK _ _ ?_⟩
       ((go_at_call 239;exact Zone.zc (HL.out _)))
       clear hK K)
   refine Zone.wpZ_nil ?_;intro p;simp only [Zone.fill];go_wp2;go_roundw
   case rel=>exact ⟨i+1,by go_num,by omega,HK.out.trans (by repeat first|exact kp0|apply kp1|apply kp2|apply kp3|apply kp4)⟩
   case measure=>simp [intOf];omega
  ·go_wp2;go_end0;exact ⟨rfl,HK.out⟩
theorem partu_any(bA off c n:Nat)(xs:List Nat)(w:World)(hn:xs.length=n)(hs:Up xs)(h:Sl w 1 u32V (some ⟨bA,off,none⟩) c xs)(hl:n≤1000000000)(h1n:1≤n) :
 Calls Tryz.prog 238 #[.slice (some ⟨bA,off,none⟩) n c,.int .i64 0,.int .i64 n] w fun e w'=>e=.returned (.bool true)∧Keep w w':=by
 have H:=lh h;have HS:=lh hs;have HN:=lh hn;clear h hs hn;go_enter Tryz.func238,Tryz.ntmps238;go_wp2;refine wp_loop_rounds 1 ?_;rw [rounds_succ];go_wp2;go_loopw [7] (fun vi wr=>∃ i:Nat,vi=.int .i64 i∧1≤i∧i≤n∧Hid (Keep w wr)) (fun vi _=>n-(intOf vi).toNat)
 case atStart=>exact ⟨1,by go_num,by omega,h1n,Keep.refl _⟩
 case round =>
  obtain ⟨i,rfl,hi,hin,HK⟩:=hrel
  by_cases hlt:i<n
  ·obtain ⟨q,hq⟩:∃ q,q+1=i:=⟨i-1,by omega⟩;obtain ⟨hb,h0⟩:=sl_u32' (H.out.keep HK.out) i (by rw [HN.out];exact hlt);obtain ⟨_,h1⟩:=sl_u32' (H.out.keep HK.out) q (by rw [HN.out];omega);have hle:=HS.out q i (by omega) (by rw [HN.out];exact hlt);generalize xs[q]'(by have:=HN.out;omega)=x at h1 hle;generalize xs[i]'(by have:=HN.out;omega)=y at h0 hle;have HL:=lh (show ∀ W,Calls Tryz.prog 239 #[.int .u32 (y:Int),.int .u32 (x:Int)] W fun e w'=>e=.returned (.bool false)∧Keep W w' from fun W=>by
    have:=less32 y x W
    rwa [show decide (y<x)=false by simp;omega] at this)
   have e1:IntKind.i64.wrap ((i:Int)-1)=(q:Int):=by rw [IntWalk.i64_in _ ⟨by omega,by omega⟩];omega
   have hq2:q<n:=by omega
   have hpos:0<i:=by omega
   clear hle hq;go_wp2
   first|refine Zone.wp_region_all_gro (by kernel_rfl) (by kernel_rfl) ?_|refine Zone.wp_region_all (by kernel_rfl) (by kernel_rfl) ?_
   repeat
    refine Zone.wpZ_step (fun K hK=>?_);go_simp
    first
    | (refine hK _ _ ?_;clear hK K)
    | (apply Exists.intro
       refine ⟨fun p=>?_,hK _ _ ?_⟩
       ((go_at_call 239;exact Zone.zc (HL.out _)))
       clear hK K)
   refine Zone.wpZ_nil ?_;intro p;simp only [Zone.fill];go_wp2;go_roundw
   case rel=>exact ⟨i+1,by go_num,by omega,by omega,HK.out.trans (by repeat first|exact kp0|apply kp1|apply kp2|apply kp3|apply kp4)⟩
   case measure=>simp [intOf];omega
  ·have hin2:i=n:=by omega
   subst hin2;go_wp2
   first|refine Zone.wp_region_all_gro (by kernel_rfl) (by kernel_rfl) ?_|refine Zone.wp_region_all (by kernel_rfl) (by kernel_rfl) ?_
   repeat
    refine Zone.wpZ_step (fun K hK=>?_);go_simp
    first
    | (refine hK _ _ ?_;clear hK K)
    | (apply Exists.intro
       refine ⟨fun p=>?_,hK _ _ ?_⟩
       (fail)
       clear hK K)
   refine Zone.wpZ_nil ?_;intro p;simp only [Zone.fill];go_wp2;go_ret;exact ⟨rfl,HK.out.trans (by repeat first|exact kp0|apply kp1|apply kp2|apply kp3|apply kp4)⟩
theorem pivu_any(bA off c n:Nat)(xs:List Nat)(w:World)(hn:xs.length=n)(hs:Up xs)(h:Sl w 1 u32V (some ⟨bA,off,none⟩) c xs)(hl:n≤1000000000)(h8:8≤n) :
 Calls Tryz.prog 236 #[.slice (some ⟨bA,off,none⟩) n c,.int .i64 0,.int .i64 n] w fun e w'=>∃ j:Nat,e=.returned (.tuple #[.int .i64 j,.int .i64 1])∧Keep w w':=by
 have HMA:=lh (fun (W:World) (hW:Keep w W) (p:Value) (i:Nat) (hi:0<i) (hk:i+1<n)=>medadj_any bA off c i n xs p W hn hs (h.keep hW) hi hk hl);have HM:=lh (fun (W:World) (hW:Keep w W) (p:Value) (i j k:Nat) (hij:i≤j) (hjk:j≤k) (hk:k<n)=>med_any bA off c i j k n xs p W hn hs (h.keep hW) hij hjk hk);obtain ⟨q,hq⟩:∃ q,q=n/4:=⟨_,rfl⟩;obtain ⟨q2,hq2⟩:∃ q2,q2=q*2:=⟨_,rfl⟩;obtain ⟨q3,hq3⟩:∃ q3,q3=q*3:=⟨_,rfl⟩;have e1:(n:Int)/4=(q:Int):=by omega
 have e2:(q:Int)*2=(q2:Int):=by omega
 have e3:(q:Int)*3=(q3:Int):=by omega
 have hA:0<q∧q+1<n∧0<q2∧q2+1<n∧0<q3∧q3+1<n∧q≤q2∧q2≤q3∧q3<n:=by omega
 have HA:=lh hA;clear hn hs h hq hq2 hq3 hA;go_enter Tryz.func236,Tryz.ntmps236;go_upto_if 32 with fail;have hRB:Row (w.alloc (.cells #[.int .i64 0] 3)) w.heap.size 3 [.int .i64 0]:=row_alloc _ _ _;have hKB:Keep w (w.alloc (.cells #[.int .i64 0] 3)):=Keep.alloc (Keep.refl _) _;generalize w.alloc (.cells #[.int .i64 0] 3)=wb at hRB hKB ⊢;generalize w.heap.size=gs at hRB ⊢;have HRB:=lh hRB;have HKB:=lh hKB;clear hRB hKB
 by_cases h50:50≤n
 ·go_wp2_with (go_at_call 269;refine hold ?_);refine unhold ?_;refine (HMA.out _ HKB.out _ q HA.out.1 HA.out.2.1).mono ?_;rintro e w1 ⟨rfl,hk1⟩;have HK1:=lh hk1;clear hk1;go_wp2_with (go_at_call 269;refine hold ?_);refine unhold ?_;refine (HMA.out _ (HKB.out.trans HK1.out) _ q2 HA.out.2.2.1 HA.out.2.2.2.1).mono ?_;rintro e w2 ⟨rfl,hk2⟩;have HK2:=lh (HK1.out.trans hk2);clear hk2;go_wp2_with (go_at_call 269;refine hold ?_);refine unhold ?_;refine (HMA.out _ (HKB.out.trans HK2.out) _ q3 HA.out.2.2.2.2.1 HA.out.2.2.2.2.2.1).mono ?_;rintro e w3 ⟨rfl,hk3⟩;have HK3:=lh (HK2.out.trans hk3);clear hk3;go_wp2_with (go_at_call 270;refine hold ?_);refine unhold ?_;refine (HM.out _ (HKB.out.trans HK3.out) _ q q2 q3 HA.out.2.2.2.2.2.2.1 HA.out.2.2.2.2.2.2.2.1 HA.out.2.2.2.2.2.2.2.2).mono ?_;rintro e w4 ⟨rfl,hk4⟩;have HK4:=lh (HK3.out.trans hk4);clear hk4;have x0:=(HRB.out.keep HK4.out).cell 0 _ rfl;have hb:=(HRB.out.keep HK4.out).lt;go_wp2;exact bodyPost_ret (v:=.tuple #[.int .i64 q2,.int .i64 1]) (by simp [results,Tryz.results236,go_sem]) rfl ⟨q2,rfl,HKB.out.trans HK4.out⟩
 ·go_wp2_with (go_at_call 270;refine hold ?_);refine unhold ?_;refine (HM.out _ HKB.out _ q q2 q3 HA.out.2.2.2.2.2.2.1 HA.out.2.2.2.2.2.2.2.1 HA.out.2.2.2.2.2.2.2.2).mono ?_;rintro e w4 ⟨rfl,hk4⟩;have HK4:=lh hk4;clear hk4;have x0:=(HRB.out.keep HK4.out).cell 0 _ rfl;have hb:=(HRB.out.keep HK4.out).lt;go_wp2;exact bodyPost_ret (v:=.tuple #[.int .i64 q2,.int .i64 1]) (by simp [results,Tryz.results236,go_sem]) rfl ⟨q2,rfl,HKB.out.trans HK4.out⟩
theorem pdqu_any(bA off c n lim:Nat)(xs:List Nat)(w:World)(hn:xs.length=n)(hs:Up xs)(h:Sl w 1 u32V (some ⟨bA,off,none⟩) c xs)(hl:n≤1000000000)(hlim:12<n→0<lim) :
 Calls Tryz.prog 201 #[.slice (some ⟨bA,off,none⟩) n c,.int .i64 0,.int .i64 n,.int .i64 lim] w fun e w'=>e=.returned (.tuple #[])∧Keep w w':=by
 have HI:=lh (fun (W:World) (hW:Keep w W)=>insu_any bA off c n xs W hn hs (h.keep hW) hl);have HP:=lh (fun (W:World) (hW:Keep w W) (h8:8≤n)=>pivu_any bA off c n xs W hn hs (h.keep hW) hl h8);have HQ:=lh (fun (W:World) (hW:Keep w W) (h1:1≤n)=>partu_any bA off c n xs W hn hs (h.keep hW) hl h1);clear hn hs h
 by_cases h12:n≤12
 ·clear hlim;go_enter Tryz.func201,Tryz.ntmps201;go_wp2;refine wp_loop_rounds 1 ?_;rw [rounds_succ];go_wp2_with (go_at_call 233;refine hold ?_);refine unhold ?_;refine (HI.out _ (Keep.refl _)).mono ?_;rintro e w1 ⟨rfl,hk1⟩;go_wp2;exact bodyPost_ret (v:=.tuple #[]) (by simp [results,Tryz.results201,go_sem]) rfl ⟨rfl,hk1⟩
 ·have hl0:=hlim (by omega);have e0:((lim:Int)==0)=false:=by simp;omega
  have e1:¬ (lim:Int)=0:=by omega
  clear hlim;go_enter Tryz.func201,Tryz.ntmps201;go_wp2;refine wp_loop_rounds 1 ?_;rw [rounds_succ];go_wp2_with (go_at_call 236;refine hold ?_);refine unhold ?_;refine (HP.out _ (Keep.refl _) (by omega)).mono ?_;rintro e w1 ⟨j,rfl,hk1⟩;have HK1:=lh hk1;clear hk1;go_wp2_with (go_at_call 238;refine hold ?_);refine unhold ?_;refine (HQ.out _ HK1.out (by omega)).mono ?_;rintro e w2 ⟨rfl,hk2⟩;have HK2:=lh (HK1.out.trans hk2);clear hk2;go_wp2;exact bodyPost_ret (v:=.tuple #[]) (by simp [results,Tryz.results201,go_sem]) rfl ⟨rfl,HK2.out⟩
theorem blen_any(n:Nat)(hn:n<2^64)(w:World):Calls Tryz.prog 159 #[.int .u64 (n:Int)] w fun e w'=>e=.returned (.int .i64 (Lib.bitLen n:Nat))∧Keep w w':=by
 have HL:=lh (len64_keep n hn);go_enter Tryz.func159,Tryz.ntmps159;go_wp2_with (go_at_call 163;refine hold ?_);refine unhold ?_;refine (HL.out _).mono ?_;rintro e w1 ⟨rfl,hk1⟩;go_wp2;go_ret;exact ⟨rfl,hk1⟩
theorem bitLen_pos(n:Nat)(h:0<n)(hn:n<2^64):0<Lib.bitLen n:=by
 rcases Nat.eq_zero_or_pos (Lib.bitLen n) with e|e
 ·have:=(bitLen_le 0 n hn).1 (by omega);simp at this;omega
 ·exact e
theorem sortu_any(A:Option Addr)(c:Nat)(xs:List Nat)(w:World)(hs:Up xs)(h:Sl w 1 u32V A c xs)(hl:xs.length≤1000000000)(hA:0<xs.length) :
 Calls Tryz.prog 167 #[.slice A xs.length c] w fun e w'=>e=.returned (.tuple #[])∧Keep w w':=by
 obtain ⟨b,off,rfl,h1,h2⟩:=sl_u32 h 0 hA;clear h1 h2;have HB:=lh (blen_any xs.length (by omega));have HP:=lh (fun (W:World) (hW:Keep w W)=>pdqu_any b off c xs.length (Lib.bitLen xs.length) xs W rfl hs (h.keep hW) hl (fun _=>bitLen_pos _ hA (by omega)));generalize xs.length=n at hl HB HP;generalize Lib.bitLen n=lim at HB HP;have e1:IntKind.u64.wrap (n:Int)=(n:Int):=by rw [IntKind.wrap_u64]<;>omega
 clear h hs hA;go_enter Tryz.func167,Tryz.ntmps167;go_wp2_with (go_at_call 159;refine hold ?_);refine unhold ?_;refine (HB.out _).mono ?_;rintro e w1 ⟨rfl,hk1⟩;have HK1:=lh hk1;clear hk1;go_wp2_with (go_at_call 201;refine hold ?_);refine unhold ?_;refine (HP.out _ HK1.out).mono ?_;rintro e w2 ⟨rfl,hk2⟩;have HK2:=lh (HK1.out.trans hk2);clear hk2;go_wp2;go_end0;exact ⟨rfl,HK2.out⟩
theorem insu_zero(A:Option Addr)(c:Nat)(w:World):Calls Tryz.prog 233 #[.slice A 0 c,.int .i64 0,.int .i64 0] w fun e w'=>e=.returned (.tuple #[])∧Keep w w':=by
 go_enter Tryz.func233,Tryz.ntmps233;go_wp2;refine wp_loop_rounds 1 ?_;rw [rounds_succ];go_wp2;go_end0;exact ⟨rfl,Keep.refl _⟩
theorem pdqu_zero(A:Option Addr)(c lim:Nat)(w:World):Calls Tryz.prog 201 #[.slice A 0 c,.int .i64 0,.int .i64 0,.int .i64 lim] w fun e w'=>e=.returned (.tuple #[])∧Keep w w':=by
 have HI:=lh (insu_zero A c);go_enter Tryz.func201,Tryz.ntmps201;go_wp2;refine wp_loop_rounds 1 ?_;rw [rounds_succ];go_wp2_with (go_at_call 233;refine hold ?_);refine unhold ?_;refine (HI.out _).mono ?_;rintro e w1 ⟨rfl,hk1⟩;go_wp2;exact bodyPost_ret (v:=.tuple #[]) (by simp [results,Tryz.results201,go_sem]) rfl ⟨rfl,hk1⟩
theorem sortu_zero(A:Option Addr)(c:Nat)(w:World):Calls Tryz.prog 167 #[.slice A 0 c] w fun e w'=>e=.returned (.tuple #[])∧Keep w w':=by
 have HB:=lh (blen_any 0 (by omega));generalize Lib.bitLen 0=lim at HB;have HP:=lh (pdqu_zero A c lim);go_enter Tryz.func167,Tryz.ntmps167;go_wp2_with (go_at_call 159;refine hold ?_);refine unhold ?_;refine (HB.out _).mono ?_;rintro e w1 ⟨rfl,hk1⟩;have HK1:=lh hk1;clear hk1;go_wp2_with (go_at_call 201;refine hold ?_);refine unhold ?_;refine (HP.out _).mono ?_;rintro e w2 ⟨rfl,hk2⟩;have HK2:=lh (HK1.out.trans hk2);clear hk2;go_wp2;go_end0;exact ⟨rfl,HK2.out⟩
theorem sortu_all(A:Option Addr)(c:Nat)(xs:List Nat)(w:World)(hs:Up xs)(h:Sl w 1 u32V A c xs)(hl:xs.length≤1000000000) :
 Calls Tryz.prog 167 #[.slice A xs.length c] w fun e w'=>e=.returned (.tuple #[])∧Keep w w':=by
 rcases Nat.eq_zero_or_pos xs.length with e|e
 ·rw [e];exact sortu_zero A c w
 ·exact sortu_any A c xs w hs h hl e
end Go.Proofs.YtpkocnpamcchcaaGreatDoor
