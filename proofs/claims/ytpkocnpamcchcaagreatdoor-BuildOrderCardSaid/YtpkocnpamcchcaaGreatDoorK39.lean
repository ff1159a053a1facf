/- Parts of the proof. -/
import Derived.Deep.CutBlock
import Derived.Test.YtpkocnpamcchcaaGreatDoorK38
set_option maxRecDepth 100000
set_option maxHeartbeats 4000000
set_option linter.unusedSimpArgs false
set_option linter.unusedVariables false
set_option linter.unnecessarySimpa false
namespace Go.Proofs.YtpkocnpamcchcaaGreatDoor
open Go.RowKit Go.Zone Go.Shelf
attribute [local go_sem] zone stepZ fill lookFs goes goesUpon dropFs cell_gro frozen_gro size_gro lt_add drew_gro tape_gro keep_refl
attribute [local go_sem] lt_add2 lt_add3 lt_add4 lt_add5 lt_add6 lt_add7 lt_add8 lt_add9 lt_add10 lt_add11 lt_add12
attribute [local go_sem] calm_normal
theorem sl_two{w:World}{q c x y:Nat}(hc:2≤c)(hcm:c≤9223372036854775807)(h0:w.cell? ⟨q,0,none⟩=some (.int .i64 (x:Int)))(h1:w.cell? ⟨q,1,none⟩=some (.int .i64 (y:Int))):Sl w 1 n64V (some ⟨q,0,none⟩) c [x,y] :=
 ⟨hc,hcm,by simp,fun i hi=>⟨q,0,rfl,fun j u hu=>by
  match i,j,hi,hu with
  | 0,0,_,hu=>cases hu;exact h0
  | 1,0,_,hu=>cases hu;exact h1⟩⟩
theorem rowE_take(r:List Pr)(k:Nat)(h:k<r.length):Roa.rowE (r.take (k+1))=Roa.rowE (r.take k)++[r[k].1,r[k].1+r[k].2+1]:=by
 unfold Roa.rowE;rw [List.take_succ_eq_append_getElem h,List.flatMap_append];simp
theorem rrow_any(A:Option Addr)(c:Nat)(r:List Pr)(w:World)(h:Sl w 2 rnV A c r)(hb:∀ p∈r,p.1+p.2+1≤64)(hl:r.length≤65536) :
 Calls Tryz.prog 262 #[.slice A r.length c] w fun e w'=>∃ v,e=.returned v∧OwnZ w' w.heap.size v (Roa.rowE r)∧Keep w w':=by
 have H:=lh h;have HB:=lh hb;generalize hn:r.length=n at hl;have HN:=lh hn;clear h hb hn;go_enter Tryz.func262,Tryz.ntmps262;go_wp2;go_loopw [3,8] (fun vl vi wr=>∃ (k:Nat) (v:Value),k≤n∧vi=.int .i64 k∧v=vl∧Hid (OwnZ wr w.heap.size v (Roa.rowE (r.take k)))∧Hid (Keep w wr)) (fun _ vi _=>n-(intOf vi).toNat)
 case atStart=>exact ⟨0,.slice none 0 0,Nat.zero_le _,rfl,rfl,Own.nil_ _ _ _ _ _,Keep.refl _⟩
 case round =>
  obtain ⟨k,v,hk,rfl,rfl,HO,HK⟩:=hrel
  by_cases hlt:k<n
  ·have hkn:k<r.length:=by rw [HN.out];exact hlt
   obtain ⟨b,off,hA,hbb,h0,h1⟩:=sl_rn (H.out.keep HK.out) k hkn;subst hA;have hpb:=HB.out r[k] (List.getElem_mem _);have HS:=lh (rowE_take r k hkn);have HLE:=lh (show (Roa.rowE (r.take k)).length≤k*2 by rw [Roa.rowE_len,List.length_take];omega);generalize r[k]=p at h0 h1 hpb HS;obtain ⟨x,y⟩:=p;simp only at h0 h1 hpb HS;generalize Roa.rowE (r.take k)=L0 at HO HS HLE;have HE:=lh (fun W=>rend_any (x,y) W (by simp only;omega));simp only at HE;obtain ⟨t,ht⟩:∃ t,t=x+y+1:=⟨_,rfl⟩;rw [← ht] at HE HS;have e3:IntKind.i64.wrap (x:Int)=(x:Int):=by rw [IntWalk.i64_in _ ⟨by omega,by omega⟩]
   have HZ:=lh HO.out;clear hpb ht;go_upto_region 5 with fail;have hRB:Row (wr.alloc (.cells #[.int .u16 (x:Int),.int .u16 (y:Int)] 277)) wr.heap.size 277 [.int .u16 (x:Int),.int .u16 (y:Int)]:=row_alloc _ _ _;have hKB:Keep w (wr.alloc (.cells #[.int .u16 (x:Int),.int .u16 (y:Int)] 277)):=HK.out.alloc _;have hOB:OwnZ (wr.alloc (.cells #[.int .u16 (x:Int),.int .u16 (y:Int)] 277)) w.heap.size v L0:=HZ.out.keep (Keep.alloc (Keep.refl _) _);generalize wr.alloc (.cells #[.int .u16 (x:Int),.int .u16 (y:Int)] 277)=wb at hRB hKB hOB ⊢;generalize wr.heap.size=g at hRB ⊢;have HKB:=lh hKB;have HOB:=lh hOB;have x0:=hRB.cell 0 _ rfl;have x1:=hRB.cell 1 _ rfl;have hgs:=hRB.lt;clear hRB hKB hOB HZ HO HK h0 h1 hbb
   first|refine Zone.wp_region_m_gro 1 7 (by kernel_rfl) (by kernel_rfl) ?_|refine Zone.wp_region_m 1 7 (by kernel_rfl) (by kernel_rfl) ?_
   simp only [List.take_succ_cons,List.take_zero,List.drop_succ_cons,List.drop_zero]
   repeat (refine Zone.wpI_step _ (by rfl) (fun _=>by rfl) ?_)
   refine Zone.wpI_nil ?_
   repeat
    refine Zone.wpZ_step (fun K hK=>?_);go_simp
    first
    | (refine hK _ _ ?_;clear hK K)
    | (apply Exists.intro
       refine ⟨fun p=>?_,hK _ _ ?_⟩
       ((go_at_call 275;exact Zone.zc (HE.out _)))
       clear hK K)
   refine Zone.wpZ_free 18 (fun u W=>∃ q,u=.slice (some ⟨q,0,none⟩) 2 2∧Sl W 1 n64V (some ⟨q,0,none⟩) 2 [x,t]) rfl (fun _ W W' hk ⟨q,h1,h2⟩=>⟨q,h1,h2.keep hk⟩) ?_ ?_
   ·intro p;rw [Zone.lookFs_nil (by rfl)];simp only [Zone.fill];go_simp;exact ⟨sl_two (by decide) (by decide) (by simp [go_sem]) (by simp [go_sem]),Keep.alloc (Keep.refl _) _⟩
   refine Zone.wpZ_nil ?_;intro p;simp only [Zone.fill];rintro v18 ⟨q,rfl,hs⟩;have hk3:Keep wb (wb.gro p):=(by repeat first|exact kp0|apply kp1|apply kp2|apply kp3|apply kp4);generalize wb.gro p=w3 at hk3 hs ⊢;have HK3:=lh (HKB.out.trans hk3);have HO3:=HOB.out.keep hk3;clear hk3 x0 x1 hgs HKB HOB;go_simp;refine wpList_app elt_int n64_len n64_one rfl (.tmp 12) (.tmp 18) rfl (ys:=[x,t]) HO3 rfl rfl hs (by have:=HLE.out;simp;omega) HK3.out.size ?_;intro v1 w9 hown9 hg9 _;have HK9:=lh (show Keep w w9 from HO3.kept hg9 HK3.out (Nat.le_refl _));have HO9:=lh hown9;clear hown9 hg9 HO3 hs;go_simp;go_wp2
   (try rw [Zone.calm_normal])
   go_wp2;go_roundw
   case rel=>exact ⟨k+1,v1,by omega,by go_num,rfl,(by show OwnZ _ _ _ _;rw [HS.out];exact HO9.out),HK9.out⟩
   case measure=>simp [intOf];omega
  ·have hkn:k=n:=by omega
   subst hkn;rw [← HN.out,List.take_length] at HO;go_wp2;exact bodyPost_ret (v:=v) (by simp [results,Tryz.results262,go_sem]) rfl ⟨_,rfl,HO.out,HK.out⟩
end Go.Proofs.YtpkocnpamcchcaaGreatDoor
namespace Go.Proofs.YtpkocnpamcchcaaGreatDoor
open Go.RowKit Go.Zone Go.Shelf
attribute [local go_sem] zone stepZ fill lookFs goes goesUpon dropFs cell_gro frozen_gro size_gro lt_add drew_gro tape_gro keep_refl
attribute [local go_sem] lt_add2 lt_add3 lt_add4 lt_add5 lt_add6 lt_add7 lt_add8 lt_add9 lt_add10 lt_add11 lt_add12
theorem ror1_any(x y:Bool)(w:World):Calls Tryz.prog 263 #[.bool x,.bool y] w fun e w'=>e=.returned (.bool (Roa.orB x y))∧Keep w w':=by
 cases x<;>cases y
 all_goals
  go_enter Tryz.func263,Tryz.ntmps263;go_wp2;go_ret;exact ⟨rfl,(by repeat first|exact kp0|apply kp1|apply kp2|apply kp3|apply kp4)⟩
theorem skipF_step{a:List Nat}{t i:Nat}(h:i<a.length)(h2:a[i]≤t):Roa.skipF a t (a.length-i) i=Roa.skipF a t (a.length-(i+1)) (i+1):=by
 obtain ⟨f,hf⟩:∃ f,a.length-i=f+1:=⟨a.length-i-1,by omega⟩;rw [hf,show a.length-(i+1)=f by omega];show (if i<a.length∧a.getD i 0≤t then _ else _)=_;rw [if_pos ⟨h,by simpa [h] using h2⟩]
theorem skipF_stop{a:List Nat}{t i:Nat}(h:∀ hi:i<a.length,¬ a[i]≤t):Roa.skipF a t (a.length-i) i=i:=by
 cases hf:a.length-i with
 | zero=>rfl
 | succ f =>
   have hi:i<a.length:=by omega
   show (if i<a.length∧a.getD i 0≤t then _ else _)=_;rw [if_neg (fun hc=>h hi (by simpa [hi] using hc.2))]
theorem odd_cast(i:Nat):(((i:Int)%2==1):Bool)=(i%2==1):=by
 rw [Bool.eq_iff_iff];simp only [beq_iff_eq];omega
theorem redges_any(A B:Option Addr)(c d:Nat)(a b:List Nat)(w:World)(h:Sl w 1 n64V A c a)(h2:Sl w 1 n64V B d b)(hl:a.length≤10000)(hl2:b.length≤10000)(hb:∀ x∈a,x≤64)(hb2:∀ x∈b,x≤64) :
 Calls Tryz.prog 261 #[.slice A a.length c,.slice B b.length d,.func (.func 263) #[] #[]] w fun e w'=>∃ v,e=.returned v∧OwnRn w' w.heap.size v (Roa.edges Roa.orB a b)∧Keep w w':=by
 have H:=lh h;have H2:=lh h2;have HBA:=lh hb;have HBB:=lh hb2;obtain ⟨n,hn⟩:∃ n,a.length=n:=⟨_,rfl⟩;obtain ⟨m,hm⟩:∃ m,b.length=m:=⟨_,rfl⟩;rw [hn] at hl ⊢;rw [hm] at hl2 ⊢;have HN:=lh hn;have HM:=lh hm;clear h h2 hb hb2 hn hm;go_enter Tryz.func261,Tryz.ntmps261;go_wp2;go_step3;go_wp2;go_step3;go_wp2;go_loopw [7,8,9,10,11] (fun vr von vlo vi vk wr=>∃ (f i k lo:Nat) (on:Bool) (rl:List Pr) (v:Value),i≤n∧k≤m∧vi=.int .i64 i∧vk=.int .i64 k∧vlo=.int .i64 lo∧von=.bool on∧v=vr∧lo≤64∧n-i+(m-k)≤f∧rl.length≤i+k∧Hid (Roa.edgesF Roa.orB a b f i k on lo rl=Roa.edges Roa.orB a b)∧Hid (on=true→(i<a.length∨k<b.length)→lo<Roa.nextE a b i k)∧Hid (OwnRn wr w.heap.size v rl)∧Hid (Keep w wr)) (fun _ _ _ vi vk _=>n-(intOf vi).toNat+(m-(intOf vk).toNat))
 case atStart=>exact ⟨n+m,0,0,0,false,[],.slice none 0 0,Nat.zero_le _,Nat.zero_le _,rfl,rfl,rfl,rfl,rfl,by omega,by omega,by simp,lh (by rw [← HN.out,← HM.out];rfl),lh (fun e=>by cases e),Own.nil_ _ _ _ _ _,Keep.refl _⟩
 case round =>
  obtain ⟨f,i,k,lo,on,rl,v,hi,hk,rfl,rfl,rfl,rfl,rfl,hlo,hf,hrl,HE,HLO,HO,HK⟩:=hrel
  by_cases hlt:i<n∨k<m
  ·have HLT:=lh (show i<a.length∨k<b.length by rw [HN.out,HM.out];exact hlt);obtain ⟨wq,hwq⟩:∃ wq,wq=wr:=⟨_,rfl⟩;subst hwq;have HHI:=lh hi;have HHK:=lh hk;go_upto_region 4 with fail;go_cut [23] from 14 to 23 (fun s23 wx=>s23=.bool true∧Hid (Keep wq wx))
   case first =>
    by_cases hin:i<n
    ·have d1:decide (i<n)=true:=by simp;omega
     have d3:(i:Int)<(n:Int):=by omega
     clear hlt;go_wp2;go_meet;exact ⟨rfl,(by repeat first|exact kp0|apply kp1|apply kp2|apply kp3|apply kp4)⟩
    ·have d1:decide (i<n)=false:=by simp;omega
     have d2:decide (k<m)=true:=by simp;omega
     clear hlt;go_wp2;go_meet;exact ⟨rfl,(by repeat first|exact kp0|apply kp1|apply kp2|apply kp3|apply kp4)⟩
   case rest =>
   obtain ⟨rfl,HK1⟩:=hcut;rename World=>w1;clear hlt;go_upto_if 27 with fail;go_cut [12] from 28 to 31 (fun s12 wx=>s12=.int .i64 ((if i<a.length then a.getD i 0 else 65537:Nat):Int)∧Hid (Keep wq wx))
   case first =>
    by_cases hin:i<n
    ·have hia:i<a.length:=by rw [HN.out];exact hin
     have HIA:=lh hia;have d1:decide (i<n)=true:=by simp;omega
     obtain ⟨bA,oA,hA,hbA,h0⟩:=sl_n64 (H.out.keep (HK.out.trans HK1.out)) i hia;subst hA;have HGD:=lh (show a.getD i 0=a[i] by rw [List.getD_eq_getElem?_getD,List.getElem?_eq_getElem hia];rfl);generalize a[i]=x at h0 HGD;clear hia;go_wp2;go_meet;exact ⟨by rw [if_pos HIA.out,HGD.out],HK1.out⟩
    ·have d1:decide (i<n)=false:=by simp;omega
     go_wp2;go_meet;exact ⟨by rw [if_neg (by rw [HN.out];exact hin)];rfl,HK1.out⟩
   case rest =>
   obtain ⟨rfl,HK2⟩:=hcut;rename World=>w2;generalize ht1:(if i<a.length then a.getD i 0 else 65537:Nat)=t1;have HT1:=lh ht1;clear ht1 HK1;go_upto_if 35 with fail;go_cut [12] from 36 to 41 (fun s12 wx=>s12=.int .i64 ((Roa.nextE a b i k:Nat):Int)∧Hid (Keep wq wx))
   case first =>
    have HNX:=lh (show Roa.nextE a b i k=min t1 (if k<b.length then b.getD k 0 else 65537) by rw [← HT1.out];rfl);have HTB:t1≤65537:=by
     rw [← HT1.out]
     split
     ·rename_i h;have e:a.getD i 0=a[i]:=by simp [h]
      rw [e];have:=HBA.out a[i] (List.getElem_mem _);omega
     ·exact Nat.le_refl _
    by_cases hkm:k<m
    ·have hkb:k<b.length:=by rw [HM.out];exact hkm
     have d1:decide (k<m)=true:=by simp;omega
     obtain ⟨bB,oB,hB,hbB,h0⟩:=sl_n64 (H2.out.keep (HK.out.trans HK2.out)) k hkb;subst hB;have HGD:=lh (show Roa.nextE a b i k=min t1 b[k] by rw [HNX.out,if_pos hkb];simp [hkb]);generalize b[k]=x at h0 HGD;clear hkb;go_wp2;go_meet;exact ⟨by rw [HGD.out];go_num,HK2.out⟩
    ·have d1:decide (k<m)=false:=by simp;omega
     have HGD:=lh (show Roa.nextE a b i k=t1 by rw [HNX.out,if_neg (by rw [HM.out];exact hkm)];omega);go_wp2;go_meet;exact ⟨by rw [HGD.out],HK2.out⟩
   case rest =>
   obtain ⟨rfl,HK3⟩:=hcut;rename World=>w3;have HAT:=lh (Roa.nextE_mem (fun x hx=>HBA.out x hx) (fun x hx=>HBB.out x hx) HLT.out (by decide:64≤65536));have HST:=lh (Roa.edge_step (fun x hx=>HBA.out x hx) (fun x hx=>HBB.out x hx) (by decide:64≤65536) (by rw [HN.out];exact HHI.out) (by rw [HM.out];exact HHK.out) HLT.out);have HMO:=lh (Roa.edge_more (a:=a) (b:=b) (by rw [HN.out];exact HHI.out) (by rw [HM.out];exact HHK.out) HAT.out (by decide:64≤65536));generalize hT:Roa.nextE a b i k=T at HAT HST HMO HLO;have HTT:=lh hT;clear hT HK2 HT1;go_upto_block 2 with fail;go_cut [10] from 42 to 55 (fun s10 wx=>s10=.int .i64 ((Roa.skipF a T (a.length-i) i:Nat):Int)∧Hid (Keep wq wx))
   case first =>
    have HKP:=HK3;clear HLO HMO HE HST;go_wp2;go_loopw [10] (fun vi wr=>∃ i1:Nat,i≤i1∧i1≤n∧vi=.int .i64 i1∧Hid (Roa.skipF a T (a.length-i1) i1=Roa.skipF a T (a.length-i) i)∧Hid (Keep wq wr)) (fun vi _=>n-(intOf vi).toNat)
    case atStart=>exact ⟨i,Nat.le_refl _,HHI.out,rfl,rfl,HKP.out⟩
    case round =>
     clear HKP;obtain ⟨i1,hi1,hi2,rfl,HSK,HKR⟩:=hrel
     by_cases h1:i1<n
     ·have h1a:i1<a.length:=by rw [HN.out];exact h1
      obtain ⟨bA,oA,hA,hbA,h0⟩:=sl_n64 (H.out.keep (HK.out.trans HKR.out)) i1 h1a;subst hA;have d1:decide (i1<n)=true:=by simp;omega
      by_cases hx:a[i1]≤T
      ·have HS1:=lh (skipF_step h1a hx);generalize a[i1]=x at h0 hx;have d2:decide (x≤T)=true:=by simp;omega
       have e1:IntKind.i64.wrap ((i1:Int)+1)=((i1+1:Nat):Int):=by rw [IntWalk.i64_in _ ⟨by omega,by omega⟩];omega
       clear h1a hx;go_wp2;go_roundw
       case rel=>exact ⟨i1+1,by omega,by omega,by go_num,lh (by rw [← HS1.out];exact HSK.out),HKR.out⟩
       case measure=>simp [intOf];omega
      ·have HS1:=lh (skipF_stop (a:=a) (t:=T) (i:=i1) (fun _=>hx));generalize a[i1]=x at h0 hx;have d2:decide (x≤T)=false:=by simp;omega
       clear h1a hx;go_wp2;go_meet;exact ⟨by rw [← HSK.out,HS1.out],HKR.out⟩
     ·have HS1:=lh (skipF_stop (a:=a) (t:=T) (i:=i1) (fun h=>absurd h (by rw [HN.out];exact h1)));have d1:decide (i1<n)=false:=by simp;omega
      go_wp2;go_meet;exact ⟨by rw [← HSK.out,HS1.out],HKR.out⟩
   case rest =>
   obtain ⟨rfl,HK4⟩:=hcut;rename World=>w4;generalize hi2:Roa.skipF a T (a.length-i) i=i2 at HST HMO;have HI2:=lh hi2;clear hi2 HK3;go_upto_block 4 with fail;go_cut [11] from 56 to 69 (fun s11 wx=>s11=.int .i64 ((Roa.skipF b T (b.length-k) k:Nat):Int)∧Hid (Keep wq wx))
   case first =>
    have HKP:=HK4;clear HLO HMO HE HST;go_wp2;go_loopw [11] (fun vi wr=>∃ i1:Nat,k≤i1∧i1≤m∧vi=.int .i64 i1∧Hid (Roa.skipF b T (b.length-i1) i1=Roa.skipF b T (b.length-k) k)∧Hid (Keep wq wr)) (fun vi _=>m-(intOf vi).toNat)
    case atStart=>exact ⟨k,Nat.le_refl _,HHK.out,rfl,rfl,HKP.out⟩
    case round =>
     clear HKP;obtain ⟨i1,hi1,hi2,rfl,HSK,HKR⟩:=hrel
     by_cases h1:i1<m
     ·have h1a:i1<b.length:=by rw [HM.out];exact h1
      obtain ⟨bA,oA,hA,hbA,h0⟩:=sl_n64 (H2.out.keep (HK.out.trans HKR.out)) i1 h1a;subst hA;have d1:decide (i1<m)=true:=by simp;omega
      by_cases hx:b[i1]≤T
      ·have HS1:=lh (skipF_step h1a hx);generalize b[i1]=x at h0 hx;have d2:decide (x≤T)=true:=by simp;omega
       have e1:IntKind.i64.wrap ((i1:Int)+1)=((i1+1:Nat):Int):=by rw [IntWalk.i64_in _ ⟨by omega,by omega⟩];omega
       clear h1a hx;go_wp2;go_roundw
       case rel=>exact ⟨i1+1,by omega,by omega,by go_num,lh (by rw [← HS1.out];exact HSK.out),HKR.out⟩
       case measure=>simp [intOf];omega
      ·have HS1:=lh (skipF_stop (a:=b) (t:=T) (i:=i1) (fun _=>hx));generalize b[i1]=x at h0 hx;have d2:decide (x≤T)=false:=by simp;omega
       clear h1a hx;go_wp2;go_meet;exact ⟨by rw [← HSK.out,HS1.out],HKR.out⟩
     ·have HS1:=lh (skipF_stop (a:=b) (t:=T) (i:=i1) (fun h=>absurd h (by rw [HM.out];exact h1)));have d1:decide (i1<m)=false:=by simp;omega
      go_wp2;go_meet;exact ⟨by rw [← HSK.out,HS1.out],HKR.out⟩
   case rest =>
   obtain ⟨rfl,HK5⟩:=hcut;rename World=>w5;generalize hk2:Roa.skipF b T (b.length-k) k=k2 at HST HMO;have HK2:=lh hk2;clear hk2 HK4;obtain ⟨s1,s2,s3,s4,s5⟩:=HST.out;rw [HN.out] at s2;rw [HM.out] at s4;obtain ⟨f',hf'⟩:∃ f',f=f'+1:=⟨f-1,by omega⟩;have HE2:=lh (show (if Roa.orB (i2%2==1) (k2%2==1)=on then Roa.edgesF Roa.orB a b f' i2 k2 on lo rl else Roa.edgesF Roa.orB a b f' i2 k2 (Roa.orB (i2%2==1) (k2%2==1)) T (if on then rl++[(lo,T-lo-1)] else rl))=Roa.edges Roa.orB a b by
    have:=HE.out;rw [hf'] at this;unfold Roa.edgesF at this;rw [if_pos HLT.out] at this;simp only [HTT.out,HI2.out,HK2.out] at this;exact this)
   have HFF:=lh hf';obtain ⟨pi,hpi⟩:∃ pi,(i2%2==1)=pi:=⟨_,rfl⟩;obtain ⟨pk,hpk⟩:∃ pk,(k2%2==1)=pk:=⟨_,rfl⟩;rw [hpi,hpk] at HE2;have HPI:=lh hpi;have HPK:=lh hpk;have q1:(((i2:Int)%2==1):Bool)=pi:=by rw [odd_cast,hpi]
   have q2:(((k2:Int)%2==1):Bool)=pk:=by rw [odd_cast,hpk]
   clear hpi hpk HE HST hf';go_wp2_with (go_at_call 263;refine hold ?_);refine unhold ?_;refine (ror1_any _ _ _).mono ?_;rintro e w6 ⟨rfl,hk6⟩;have HK6:=lh (HK5.out.trans hk6);clear hk6 HK5;generalize Roa.orB pi pk=now at HE2 ⊢
   by_cases hno:now=on
   ·subst hno;have HE3:=lh (show Roa.edgesF Roa.orB a b f' i2 k2 now lo rl=Roa.edges Roa.orB a b by have:=HE2.out;rwa [if_pos rfl] at this);have e1:(now==now)=true:=by simp
    go_wp2;go_roundw
    case rel=>exact ⟨f',i2,k2,lo,now,rl,v,s2,s4,rfl,rfl,rfl,rfl,rfl,hlo,by have:=HFF.out;omega,by omega,HE3.out,lh (fun h _=>Nat.lt_trans (HLO.out h HLT.out) HMO.out),HO.out.keep HK6.out,HK.out.trans HK6.out⟩
    case measure=>simp [intOf];omega
   ·have e1:(now==on)=false:=by simpa using hno
    have HE3:=lh (show Roa.edgesF Roa.orB a b f' i2 k2 now T (if on then rl++[(lo,T-lo-1)] else rl)=Roa.edges Roa.orB a b by have:=HE2.out;rwa [if_neg hno] at this)
    cases on with
    | false =>
      go_wp2;go_roundw
      case rel=>exact ⟨f',i2,k2,T,now,rl,v,s2,s4,rfl,rfl,rfl,congrArg Value.bool (show now=true by simpa using hno).symm,rfl,HAT.out,by have:=HFF.out;omega,by omega,HE3.out,lh (fun _ _=>HMO.out),HO.out.keep HK6.out,HK.out.trans HK6.out⟩
      case measure=>simp [intOf];omega
    | true =>
      have hlT:=HLO.out rfl HLT.out;have hT:=HAT.out;obtain ⟨Av,cv,hv⟩:=own_form HO.out;have HO2:=lh (HO.out.keep HK6.out);generalize hL:rl.length=L at hrl hv;have HLL:=lh hL;clear hL;subst hv;obtain ⟨z,hz⟩:∃ z,z=T-lo-1:=⟨_,rfl⟩;obtain ⟨z1,hz1⟩:∃ z1,z1=T-lo:=⟨_,rfl⟩;rw [← hz] at HE3;have f1:IntKind.u16.wrap (lo:Int)=(lo:Int):=by simp [IntKind.wrap,IntKind.signed,IntKind.bits];omega
      have f2:IntKind.i64.wrap ((T:Int)-(lo:Int))=(z1:Int):=by rw [IntWalk.i64_in _ ⟨by omega,by omega⟩];omega
      have f3:IntKind.i64.wrap ((z1:Int)-1)=(z:Int):=by rw [IntWalk.i64_in _ ⟨by omega,by omega⟩];omega
      have f4:IntKind.u16.wrap (z:Int)=(z:Int):=by simp [IntKind.wrap,IntKind.signed,IntKind.bits];omega
      have HE4:=lh (show Roa.edgesF Roa.orB a b f' i2 k2 now T (rl++[(lo,z)])=Roa.edges Roa.orB a b by have:=HE3.out;rwa [if_pos rfl] at this);clear hz hz1 HE3 HE2 HO;go_wp2_with (at_builtin;refine hold ?_);refine unhold ?_;have HO3:OwnRn (w6.alloc (.cells #[.int .u16 (lo:Int),.int .u16 (z:Int)] 277)) w.heap.size (.slice Av L cv) rl:=HO2.out.keep (Keep.alloc (Keep.refl _) _);refine wpList_app elt_rn rn_len rn_one rfl (.tmp 82) (.tmp 91) rfl (ys:=[(lo,z)]) HO3 rfl rfl (sl_one _ (by omega) (by omega) (fun j u hu=>by match j,hu with|0,hu=>cases hu;simp [go_sem]|1,hu=>cases hu;simp [go_sem])) (by have:=HLL.out;simp;omega) (by have:=(HK.out.trans HK6.out).size;simp;omega) ?_;intro v1 w9 hown9 hg9 _;have HK9:=lh (show Keep w w9 from HO3.kept hg9 ((HK.out.trans HK6.out).alloc _) (Nat.le_refl _));have HO9:=lh hown9;clear hown9 hg9 HO3;go_wp2;go_roundw
      case rel=>exact ⟨f',i2,k2,T,now,rl++[(lo,z)],v1,s2,s4,rfl,rfl,rfl,congrArg Value.bool (show now=false by simpa using hno).symm,rfl,HAT.out,by have:=HFF.out;omega,by simp;have:=HLL.out;omega,HE4.out,lh (fun _ _=>HMO.out),HO9.out,HK9.out⟩
      case measure=>simp [intOf];omega
  ·have HEQ:=lh (show rl=Roa.edges Roa.orB a b by
    have:=HE.out
    cases f with
    | zero=>exact this
    | succ f=>unfold Roa.edgesF at this;rw [if_neg (by rw [HN.out,HM.out];exact hlt)] at this;exact this)
   have d1:decide ((i:Int)<(n:Int))=false:=by simp;omega
   have d2:decide ((k:Int)<(m:Int))=false:=by simp;omega
   clear hf hrl;go_wp2
   (try rw [Exit.noGoto_ret])
   exact bodyPost_ret (v:=v) (by simp [results,Tryz.results261,go_sem]) rfl ⟨_,rfl,by rw [← HEQ.out];exact HO.out,HK.out⟩
theorem rowE_le{r:List Pr}(hb:∀ p∈r,p.1+p.2+1≤64):∀ x∈Roa.rowE r,x≤64:=fun x hx=>by
 obtain ⟨p,hp,hx⟩:=List.mem_flatMap.1 hx;have:=hb p hp;simp only [List.mem_cons,List.not_mem_nil,or_false] at hx;omega
theorem ror_any(A B:Option Addr)(c d:Nat)(r s:List Pr)(w:World)(h:Sl w 2 rnV A c r)(h2:Sl w 2 rnV B d s)(hl:r.length≤5000)(hl2:s.length≤5000)(hb:∀ p∈r,p.1+p.2+1≤64)(hb2:∀ p∈s,p.1+p.2+1≤64) :
 Calls Tryz.prog 218 #[.slice A r.length c,.slice B s.length d] w fun e w'=>∃ v,e=.returned v∧OwnRn w' w.heap.size v (Roa.edges Roa.orB (Roa.rowE r) (Roa.rowE s))∧Keep w w':=by
 have H1:=lh (rrow_any A c r w h hb (by omega));have H2:=lh (fun W (hW:Keep w W)=>rrow_any B d s W (h2.keep hW) hb2 (by omega));have HE:=lh (fun W A c B d (hA:Sl W 1 n64V A c (Roa.rowE r)) (hB:Sl W 1 n64V B d (Roa.rowE s))=>redges_any A B c d _ _ W hA hB (by rw [Roa.rowE_len];omega) (by rw [Roa.rowE_len];omega) (rowE_le hb) (rowE_le hb2));have hr1:(Roa.rowE r).length≤1000000:=by rw [Roa.rowE_len];omega
 have hr2:(Roa.rowE s).length≤1000000:=by rw [Roa.rowE_len];omega
 generalize Roa.rowE r=R1 at H1 HE hr1 ⊢;generalize Roa.rowE s=R2 at H2 HE hr2 ⊢;have HR1:=lh hr1;have HR2:=lh hr2;generalize r.length=n at H1 ⊢;generalize s.length=m at H2 ⊢;clear h h2 hl hl2 hb hb2 hr1 hr2;go_enter Tryz.func218,Tryz.ntmps218;go_wp2_with (go_at_call 262;refine hold ?_);refine unhold ?_;refine H1.out.mono ?_;rintro e w1 ⟨v1,rfl,ho1,hk1⟩;have HO1:=lh ho1;have HK1:=lh hk1;clear ho1 hk1 H1;go_wp2_with (go_at_call 262;refine hold ?_);refine unhold ?_;refine (H2.out _ HK1.out).mono ?_;rintro e w2 ⟨v2,rfl,ho2,hk2⟩;obtain ⟨A2,c2,rfl,hs2⟩:=own_sl1 ho2 n64_len HR2.out;obtain ⟨A1,c1,rfl,hs1⟩:=own_sl1 (HO1.out.keep hk2) n64_len HR1.out;have HK2:=lh (HK1.out.trans hk2);have HC:=lh (HE.out _ _ _ _ _ hs1 hs2);generalize R1.length=n1 at HC ⊢;generalize R2.length=n2 at HC ⊢;clear ho2 hk2 H2 hs1 hs2 HE HO1 HK1;go_wp2_with (go_at_call 261;refine hold ?_);refine unhold ?_;refine HC.out.mono ?_;rintro e w3 ⟨v3,rfl,ho3,hk3⟩;have HO3:=lh (ho3.base_mono HK2.out.size);have HK3:=lh (HK2.out.trans hk3);clear ho3 hk3 HC HK2;go_wp2;go_ret;exact ⟨v3,rfl,HO3.out,HK3.out⟩
theorem own_w{w:World}{base:Nat}{v:Value}{x:Nat}(h:OwnW w base v x):∃ A c,v=.slice A 1024 c∧SlW w A c x:=by
 obtain ⟨A,c,hv,hs⟩:=own_sl1 h u64_len (by rw [W0_len];decide);rw [W0_len] at hv;exact ⟨A,c,hv,hs⟩
def runW(r:List Pr):Nat:=r.foldl (fun x p=>Roa.flipW x p.1 (p.1+p.2+1)) 0
theorem runW_take(r:List Pr)(k:Nat)(h:k<r.length):runW (r.take (k+1))=Roa.flipW (runW (r.take k)) r[k].1 (r[k].1+r[k].2+1):=by
 unfold runW;rw [List.take_succ_eq_append_getElem h,List.foldl_append];rfl
theorem runW_lt(r:List Pr):runW r<18446744073709551616:=by
 have:∀ (l:List Pr) (x:Nat),x<2^64→l.foldl (fun x p=>Roa.flipW x p.1 (p.1+p.2+1)) x<2^64:=by
  intro l
  induction l with
  | nil=>intro x h;exact h
  | cons v r ih=>intro x hx;exact ih _ (Roa.flipW_lt hx)
 exact this r 0 (by decide)
theorem cwords_arr{w:World}{a:List Nat}{v:Value}(h:ConAt w (.arr a) v)(hf:Fit (.arr a)):Calls Tryz.prog 210 #[v] w fun e w'=>∃ u,e=.returned u∧OwnW w' w.heap.size u (Roa.ofW a)∧Keep w w':=by
 obtain ⟨hg,hw⟩:=hf;simp only [Roa.Con.W] at hw
 cases h with
 | arr a k A c hk h =>
   have HL:=lh (fun W (hW:Keep w W)=>wof_any A c a W ((own_sl0 h u16_len (by omega)).keep hW) hg (by omega));generalize a.length=n at HL;have e2:((k:Int)==2)=false:=by simp;omega
   have e3:((k:Int)==3)=false:=by simp;omega
   have e4:¬ (k:Int)=2:=by omega
   have e5:¬ (k:Int)=3:=by omega
   clear h hg hw hk;go_enter Tryz.func210,Tryz.ntmps210;go_wp2_with (go_at_call 250;refine hold ?_);refine unhold ?_;refine (HL.out _ (by repeat first|exact kp0|apply kp1|apply kp2|apply kp3|apply kp4)).mono ?_;rintro e w1 ⟨u,rfl,ho,hk1⟩;have HO1:=lh (ho.base_mono (show w.heap.size≤_ by simp));have HK1:=lh (Keep.trans (show Keep w _ from (by repeat first|exact kp0|apply kp1|apply kp2|apply kp3|apply kp4)) hk1);clear ho hk1;go_wp2;go_ret;exact ⟨_,rfl,HO1.out,HK1.out⟩
theorem cwords_run{w:World}{r:List Pr}{v:Value}(h:ConAt w (.run r) v)(hf:Fit (.run r)):Calls Tryz.prog 210 #[v] w fun e w'=>∃ u,e=.returned u∧OwnW w' w.heap.size u (runW r)∧Keep w w':=by
 obtain ⟨hg,hw⟩:=hf;simp only [Roa.Con.W] at hw
 cases h with
 | run r A c h =>
   have H:=lh (own_sl0 h rn_len (by omega));have HB:=lh (show ∀ p∈r,p.1+p.2+1≤64 from hg);obtain ⟨n,hn⟩:∃ n,r.length=n:=⟨_,rfl⟩;rw [hn] at hw ⊢;have HN:=lh hn;have HOF:=lh (fun W=>wof_any none 0 [] W (Sl.nil_ _ (by decide)) (fun x hx=>by cases hx) (by simp));simp only [List.length_nil] at HOF;clear h hg hn;go_enter Tryz.func210,Tryz.ntmps210;go_upto_region 1 with fail;have hRB:Row (w.alloc (.cells #[.int .u8 3,.slice none 0 0,.slice none 0 0,.slice A n c] 237)) w.heap.size 237 [.int .u8 3,.slice none 0 0,.slice none 0 0,.slice A n c]:=row_alloc _ _ _;have hKB:Keep w (w.alloc (.cells #[.int .u8 3,.slice none 0 0,.slice none 0 0,.slice A n c] 237)):=(by repeat first|exact kp0|apply kp1|apply kp2|apply kp3|apply kp4);generalize w.alloc (.cells #[.int .u8 3,.slice none 0 0,.slice none 0 0,.slice A n c] 237)=wb at hRB hKB ⊢;obtain ⟨lo,hlo⟩:∃ lo,w.heap.size=lo:=⟨_,rfl⟩;generalize hgz:w.heap.size=g at hRB ⊢;have HKB:=lh hKB;have HRB:=lh hRB;have HLO:=lh hgz;have y0:=hRB.cell 0 _ rfl;have y3:=hRB.cell 3 _ rfl;have hbs:=hRB.lt;clear hRB hKB hgz hlo;go_wp2_with (go_at_call 250;refine hold ?_);refine unhold ?_;refine (HOF.out _).mono ?_;rintro e w1 ⟨u,rfl,ho,hk1⟩;have HO1:=lh (ho.base_mono (show g≤wb.heap.size by rw [← HLO.out];exact HKB.out.size));have HK1:=lh (HKB.out.trans hk1);have HR1:=lh (HRB.out.keep hk1);clear ho hk1 y0 y3 hbs HKB HRB HOF;have y3:=HR1.out.cell 3 _ rfl;have hbs:=HR1.out.lt;go_wp2
   go_loopw [3,19] (fun vl vi wr=>∃ (k:Nat) (v:Value),k≤n∧vi=.int .i64 k∧v=vl∧Hid (OwnW wr g v (runW (r.take k)))∧Hid (Keep w wr)) (fun _ vi _=>n-(intOf vi).toNat)
   case atStart=>exact ⟨0,u,Nat.zero_le _,rfl,rfl,HO1.out,HK1.out⟩
   case round =>
    clear HO1 HK1 HR1 y3 hbs;obtain ⟨k,v,hk,rfl,rfl,HO,HK⟩:=hrel
    by_cases hlt:k<n
    ·have hkn:k<r.length:=by rw [HN.out];exact hlt
     obtain ⟨b,off,hA,hbb,h0,h1⟩:=sl_rn (H.out.keep HK.out) k hkn;subst hA;have hpb:=HB.out r[k] (List.getElem_mem _);have HS:=lh (runW_take r k hkn);have HXL:=lh (runW_lt (r.take k));generalize r[k]=p at h0 h1 hpb HS;obtain ⟨x,y⟩:=p;simp only at h0 h1 hpb HS;generalize runW (r.take k)=X at HO HS HXL;obtain ⟨Av,cv,rfl,hsv⟩:=own_w HO.out;obtain ⟨t,ht⟩:∃ t,t=x+y+1:=⟨_,rfl⟩;obtain ⟨t0,ht0⟩:∃ t0,t0=x+y:=⟨_,rfl⟩;have HFL:=lh (fun W (hW:Keep wr W)=>wflip_any Av cv X x t W HXL.out (hsv.keep hW) (by omega) (by omega));rw [← ht] at HS;have e1:IntKind.i64.wrap ((x:Int)+(y:Int))=(t0:Int):=by rw [IntWalk.i64_in _ ⟨by omega,by omega⟩];omega
     have e2:IntKind.i64.wrap ((t0:Int)+1)=(t:Int):=by rw [IntWalk.i64_in _ ⟨by omega,by omega⟩];omega
     have e3:IntKind.i64.wrap (x:Int)=(x:Int):=by rw [IntWalk.i64_in _ ⟨by omega,by omega⟩]
     have e4:IntKind.i64.wrap (y:Int)=(y:Int):=by rw [IntWalk.i64_in _ ⟨by omega,by omega⟩]
     clear hpb ht ht0 hsv;go_wp2_with (go_at_call 251;refine hold ?_);refine unhold ?_;refine (HFL.out _ (by repeat first|exact kp0|apply kp1|apply kp2|apply kp3|apply kp4)).mono ?_;rintro e w5 ⟨v5,rfl,ho5,hk5⟩;have hK0:Keep wr w5:=Keep.trans (by repeat first|exact kp0|apply kp1|apply kp2|apply kp3|apply kp4) hk5;have HO5:=lh (ho5.base_mono (base':=g) (by have:=HK.out.size;have:=HLO.out;simp;omega));have HK5:=lh (HK.out.trans hK0);clear ho5 hk5 hK0 HFL HO;go_wp2;go_roundw
     case rel=>exact ⟨k+1,v5,by omega,by go_num,rfl,(by show OwnW _ _ _ _;rw [HS.out];exact HO5.out),HK5.out⟩
     case measure=>simp [intOf];omega
    ·have hkn:k=n:=by omega
     subst hkn;rw [← HN.out,List.take_length] at HO;go_wp2;exact bodyPost_ret (v:=v) (by simp [results,Tryz.results210,go_sem]) rfl ⟨_,rfl,by rw [HLO.out];exact HO.out,HK.out⟩
theorem cwords_any{w:World}{c:Roa.Con}{v:Value}(h:ConAt w c v)(hf:Fit c)(hn:c.NotW):Calls Tryz.prog 210 #[v] w fun e w'=>∃ u,e=.returned u∧OwnW w' w.heap.size u c.word∧Keep w w':=by
 cases c with
 | arr a=>exact cwords_arr h hf
 | wrd x=>exact hn.elim
 | run r=>exact cwords_run h hf
end Go.Proofs.YtpkocnpamcchcaaGreatDoor
