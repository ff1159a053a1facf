/- Parts of the proof. -/
import Derived.Lib.LaidTab
import Derived.Test.YtpkocnpamcchcaaGreatDoorK16
import Derived.Test.YtpkocnpamcchcaaGreatDoorK36
set_option maxRecDepth 100000
set_option maxHeartbeats 4000000
set_option linter.unusedSimpArgs false
set_option linter.unusedVariables false
set_option linter.unnecessarySimpa false
namespace Go.Proofs.YtpkocnpamcchcaaGreatDoor
open Go.RowKit Go.Zone Go.Shelf
attribute [local go_sem] zone stepZ fill lookFs goes goesUpon dropFs cell_gro frozen_gro size_gro lt_add drew_gro tape_gro keep_refl
attribute [local go_sem] lt_add2 lt_add3 lt_add4 lt_add5 lt_add6 lt_add7 lt_add8 lt_add9 lt_add10 lt_add11 lt_add12
attribute [local go_sem ↓] to_fastL to_fastS
attribute [local go_sem] fast_load fast_store rd10_drew rd10_drewN rd10_gro thB_drew thB_set thB_drewN thB_gro size_setCells thB_new
def recB(k:Nat)(x:Star.SR):List UInt8:=(x.ids.take k).flatMap (fun id=>leI (wrap64 (id+1)) 4)++leI x.n 8++x.sums.flatMap fun s=>leI s.1 8++leI s.2.1 8++leI s.2.2 8
def nodeB(x:Star.SN):List UInt8:=leI x.depth 1++leI x.lo 4++leI x.hi 4++leI x.kids.length 4++x.kids.flatMap fun q=>leI (wrap64 (q.1+1)) 4++leI q.2 4
def treeB(k m:Nat)(P:List Star.SR)(N:List Star.SN):List UInt8:=leI k 1++leI m 2++leI P.length 4++P.flatMap (recB k)++leI N.length 4++N.flatMap nodeB
theorem leI_len(x:Int)(s:Nat):(leI x s).length=s:=le_len _ _
theorem slice_ids(gx k:Nat)(hk:k≤8)(W:World):(Instr.sliceAt 155 (.pointer (some ⟨gx,0,none⟩)) none (some (.int .i64 (k:Int))) none).run Tryz.prog W=.ok (.slice (some ⟨gx,0,none⟩) k 8) W:=by
 have h1:¬ ((k:Int)<0):=by omega
 have h2:¬ ((8:Int)<(k:Int)):=by omega
 unfold Instr.sliceAt;simp only [Sem.run_bind,run_underlying und_ids,Result.andThen_ok];go_simp
theorem tnone_any(gt k:Nat)(vs:List Value)(hk:1≤k)(w:World)(h:Row w gt 153 (.int .i64 (k:Int) :: vs)):Calls Tryz.prog 86 #[.pointer (some ⟨gt,0,none⟩)] w fun e w'=>e=.returned (.bool false)∧w=w':=by
 have x0:=h.cell 0 _ rfl;have hg:=h.lt;have hk0:((k:Int)==0)=false:=by simp;omega
 clear h;go_enter Tryz.func86,Tryz.ntmps86;go_wp2;go_ret;exact ⟨rfl,rfl⟩
theorem stbytes_any(gt base k m leaf:Nat)(vr vn:Value)(P:List (Rc × Star.SR))(N:List (Nc × Star.SN))(w:World)(hS:StarAt w gt base k m leaf vr vn P N)(hk1:1≤k)(hk8:k≤8)(hm:m≤256)(hP:P.length≤1000000)(hN:N.length≤1000000)(hkd:∀ p∈N,p.2.kids.length≤100000) :
 Calls Tryz.prog 37 #[.pointer (some ⟨gt,0,none⟩)] w fun e w'=>∃ v,e=.returned v∧OwnB w' w.heap.size v (treeB k m (P.map fun p=>p.2) (N.map fun p=>p.2))∧Keep w w':=by
 obtain ⟨Ar,cr,hvr⟩:=own_form hS.recs;obtain ⟨An,cn,hvn⟩:=own_form hS.nodes;rw [List.length_map] at hvr hvn;subst hvr;subst hvn;obtain ⟨np,hnp⟩:∃ np,np=P.length:=⟨_,rfl⟩;obtain ⟨nn,hnn⟩:∃ nn,nn=N.length:=⟨_,rfl⟩;rw [← hnp,← hnn] at hS;rw [← hnp] at hP;rw [← hnn] at hN;have HNP:=lh hnp;have HNN:=lh hnn;have HS:=lh hS;have HKD:=lh hkd;have HROW:=lh (fun W (hW:Keep w W)=>(hS.row.keep hW));have HGT:=lh (fun W (hW:Keep w W)=>Nat.lt_of_lt_of_le hS.row.lt hW.size);have x0:=hS.row.cell 0 _ rfl;have hgt:=hS.row.lt;have HNO:=lh (tnone_any gt k _ hk1 w hS.row);clear hS hkd hnp hnn;go_enter Tryz.func37,Tryz.ntmps37;go_wp2_with (go_at_call 86;refine hold ?_);refine unhold ?_;refine HNO.out.mono ?_;rintro e w' ⟨rfl,rfl⟩;clear HNO;go_upto_region 5 with fail;have hb0:StB (w.alloc (.cells #[.slice none 0 0] 31)) w w.heap.size []:=⟨⟨.slice none 0 0,row_alloc w 31 [.slice none 0 0],Own.nil_ _ _ _ _ _⟩,Nat.le_refl _,Keep.alloc (Keep.refl _) _⟩;generalize w.alloc (.cells #[.slice none 0 0] 31)=w2 at hb0 ⊢;generalize hbb:w.heap.size=bb at hb0 ⊢;have HB2:=lh hb0;clear hb0 x0;have x0:=(HROW.out _ HB2.out.keep).cell 0 _ rfl;have hg2:=HGT.out _ HB2.out.keep;go_wp2_with (go_at_fn 87;refine hold ?_);refine unhold ?_;refine (stput_any (k:Int) 1 bb (by decide) _ w _ HB2.out (by simp)).mono ?_;rintro e w3 ⟨rfl,hbx,htx⟩;have HB3:=lh hbx;have HT3:=lh htx;clear hbx htx HB2;clear x0 hg2 HT3;have x1:=(HROW.out _ HB3.out.keep).cell 1 _ rfl;have hg3:=HGT.out _ HB3.out.keep;go_wp2_with (go_at_fn 87;refine hold ?_)
 refine unhold ?_;refine (stput_any (m:Int) 2 bb (by decide) _ w _ HB3.out (by simp [leI_len])).mono ?_;rintro e w4 ⟨rfl,hbx,htx⟩;have HB4:=lh hbx;have HT4:=lh htx;clear hbx htx HB3;clear x1 hg3 HT4;have x3:=(HROW.out _ HB4.out.keep).cell 3 _ rfl;have hg4:=HGT.out _ HB4.out.keep;go_wp2_with (go_at_fn 87;refine hold ?_);refine unhold ?_;refine (stput_any (np:Int) 4 bb (by decide) _ w _ HB4.out (by simp [leI_len])).mono ?_;rintro e w5 ⟨rfl,hbx,htx⟩;have HB5:=lh hbx;have HT5:=lh htx;clear hbx htx HB4;clear x3 hg4 HT5;rw [List.nil_append] at HB5;have x3:=(HROW.out _ HB5.out.keep).cell 3 _ rfl;have hg5:=HGT.out _ HB5.out.keep;go_wp2;clear x3 hg5;go_loopw [42] (fun vi wr=>∃ (i:Nat) (bs:List UInt8),i≤np∧vi=.int .i64 i∧Hid (bs=leI k 1++leI m 2++leI np 4++((P.map fun p=>p.2).take i).flatMap (recB k))∧bs.length≤7+7000*i∧Hid (StB wr w bb bs)) (fun vi _=>np-(intOf vi).toNat)
 case atStart=>exact ⟨0,leI k 1++leI m 2++leI np 4,Nat.zero_le _,rfl,(by show _=_;simp),by simp [leI_len],HB5.out⟩
 case round =>
  clear HB5;obtain ⟨i,bs,hi,rfl,HBS,hbl,HB⟩:=hrel
  by_cases hlt:i<np
  ·have hiP:i<P.length:=by rw [← HNP.out];exact hlt
   have hs5:=HS.out.keep HB.out.keep;obtain ⟨gr,rfl,-⟩:=vown_some hs5.recs (by rw [List.length_map];omega);obtain ⟨hrc,_,hgr,_⟩:=own_at hs5.recs rc_len (by rw [List.length_map];exact HNP.out.symm) i (by rw [List.length_map];exact hiP);have hra:=HS.out.ra P[i] (List.getElem_mem hiP);have hml:=HS.out.ml P[i] (List.getElem_mem hiP);have HTK:=lh (show ((P.map fun p=>p.2).take (i+1)).flatMap (recB k)=((P.map fun p=>p.2).take i).flatMap (recB k)++recB k P[i].2 by
    rw [List.take_succ_eq_append_getElem (by rw [List.length_map];exact hiP),List.flatMap_append];simp)
   rw [List.getElem_map] at hrc;generalize P[i]=pq at hrc hra hml HTK;obtain ⟨x,X⟩:=pq;simp only at hrc hra hml HTK;have a0:=rd10_of hrc;have HRA:=lh hra;have HML:=lh hml;clear hrc hra hml hs5 hiP;go_upto_region 11 with fail;have hbr:=box_row wr x;have hbk:=box_keep wr x;generalize World.setCells (World.alloc wr _) _ _ _=w6 at hbr hbk ⊢;generalize wr.heap.size=gx at hbr ⊢;have HBR:=lh hbr;have HB6:=lh (HB.out.keep' hbk);clear hbr hbk a0 HB hgr;have x0:=(HROW.out _ HB6.out.keep).cell 0 _ rfl;have hg6:=HGT.out _ HB6.out.keep;have hgx:=HBR.out.lt;have hsid:=slice_ids gx k hk8;go_wp2;clear hsid x0 hg6 hgx;go_loopw [53] (fun vj wq=>∃ (j:Nat) (bj:List UInt8),j≤k∧vj=.int .i64 j∧Hid (bj=bs++(X.ids.take j).flatMap fun id=>leI (wrap64 (id+1)) 4)∧bj.length≤7+7000*i+4*j∧Hid (StB wq w bb bj)∧Hid (Row wq gx 158 x.cells)) (fun vj _=>k-(intOf vj).toNat)
   case atStart=>exact ⟨0,bs,Nat.zero_le _,rfl,(by show _=_;simp),by omega,HB6.out,HBR.out⟩
   case round =>
    clear HB6 HBR;obtain ⟨j,bj,hj,rfl,HBJ,hjl,HB,HBR⟩:=hrel
    by_cases hjk:j<k
    ·have hidl:j<X.ids.length:=by rw [HRA.out.len8];omega
     have y0:=HBR.out.cell j _ (ids_cell x j (by omega));have HIT:=lh (show (X.ids.take (j+1)).flatMap (fun id=>leI (wrap64 (id+1)) 4)=(X.ids.take j).flatMap (fun id=>leI (wrap64 (id+1)) 4)++leI (wrap64 (x.ids.getD j 0+1)) 4 by
      rw [List.take_succ_eq_append_getElem hidl,List.flatMap_append,HRA.out.ids,List.getD_eq_getElem?_getD,List.getElem?_eq_getElem hidl];simp)
     generalize x.ids.getD j 0=z at y0 HIT;have hgx:=HBR.out.lt;clear hidl;go_wp2_with (go_at_fn 87;refine hold ?_);refine unhold ?_;refine (stput_any (wrap64 (z+1)) 4 bb (by decide) _ w _ HB.out (by omega)).mono ?_;rintro e w7 ⟨rfl,hbx,htx⟩;have HB7:=lh hbx;have HT7:=lh htx;clear hbx htx HB;have HBR7:=lh (HT7.out gx _ _ (by decide) (by decide) HBR.out);clear y0 hgx;go_wp2;go_roundw
     case rel=>exact ⟨j+1,bj++leI (wrap64 (z+1)) 4,by omega,by go_num,(by show _=_;rw [HIT.out,HBJ.out,List.append_assoc]),by rw [List.length_append,leI_len];omega,HB7.out,HBR7.out⟩
     case measure=>simp [intOf];omega
    ·have hje:j=k:=by omega
     subst hje;have x8:=HBR.out.cell 8 _ rfl;have hgx:=HBR.out.lt;go_wp2_with (go_at_fn 87;refine hold ?_);refine unhold ?_;refine (stput_any x.n 8 bb (by decide) _ w _ HB.out (by omega)).mono ?_;rintro e w7 ⟨rfl,hbx,htx⟩;have HB7:=lh hbx;have HT7:=lh htx;clear hbx htx HB;have HBR7:=lh (HT7.out gx _ _ (by decide) (by decide) HBR.out);clear x8 hgx HBR HT7;have x9:=HBR7.out.cell 9 _ rfl;have hgx:=HBR7.out.lt;rw [HRA.out.len.trans HML.out] at x9;go_wp2;clear x9 hgx;go_loopw [69] (fun vq wq=>∃ (q:Nat) (bq:List UInt8),q≤m∧vq=.int .i64 q∧Hid (bq=bj++leI x.n 8++(X.sums.take q).flatMap fun s=>leI s.1 8++leI s.2.1 8++leI s.2.2 8)∧bq.length≤7+7000*i+4*j+8+24*q∧Hid (StB wq w bb bq)) (fun vq _=>m-(intOf vq).toNat)
     case atStart=>exact ⟨0,bj++leI x.n 8,Nat.zero_le _,rfl,(by show _=_;simp),by rw [List.length_append,leI_len];omega,HB7.out⟩
     case round =>
      clear HB7;obtain ⟨q,bq,hq,rfl,HBQ,hql,HB⟩:=hrel
      by_cases hqm:q<m
      ·have hos:=HRA.out.own.keep HB.out.keep;unfold Rc.sv at hos;have hqs:q<X.sums.length:=by rw [HML.out];exact hqm
       obtain ⟨gs,hgs,hln⟩:=vown_some hos (by omega);rw [hgs] at hos;obtain ⟨c0,_,hgsl,_⟩:=own_at hos sm_len hln.symm q hqs;have HST:=lh (show (X.sums.take (q+1)).flatMap (fun s=>leI s.1 8++leI s.2.1 8++leI s.2.2 8)=(X.sums.take q).flatMap (fun s=>leI s.1 8++leI s.2.1 8++leI s.2.2 8)++(leI X.sums[q].1 8++leI X.sums[q].2.1 8++leI X.sums[q].2.2 8) by
        rw [List.take_succ_eq_append_getElem hqs,List.flatMap_append];simp)
       generalize X.sums[q]=s at c0 HST;obtain ⟨sa,sl,sg⟩:=s;have c0a:=c0 0 _ rfl;have c0b:=c0 1 _ rfl;have c0c:=c0 2 _ rfl;simp only [Nat.add_zero] at c0a;clear c0 hos hqs hln;go_upto_region 20 with fail;have hr8:=row_alloc wr 160 [.int .i64 sa,.int .i64 sl,.int .i64 sg];have hr8:Row (wr.alloc (.cells #[.int .i64 sa,.int .i64 sl,.int .i64 sg] 160)) wr.heap.size 160 [.int .i64 sa,.int .i64 sl,.int .i64 sg]:=hr8;have HB8:=lh (HB.out.keep' (Keep.alloc (Keep.refl wr) (.cells #[.int .i64 sa,.int .i64 sl,.int .i64 sg] 160)));generalize wr.alloc (.cells #[.int .i64 sa,.int .i64 sl,.int .i64 sg] 160)=w8 at hr8 HB8 ⊢;generalize wr.heap.size=gb at hr8 ⊢;have HR8:=lh hr8;clear c0a c0b c0c hgsl HB hr8 hgs;have z0:=HR8.out.cell 0 _ rfl;have hz0:=HR8.out.lt;go_wp2_with (go_at_fn 87;refine hold ?_);refine unhold ?_;refine (stput_any sa 8 bb (by decide) _ w _ HB8.out (by omega)).mono ?_;rintro e w9 ⟨rfl,hbx,htx⟩;have HB9:=lh hbx;have HT9:=lh htx;clear hbx htx HB8;have HR9:=lh (HT9.out gb _ _ (by decide) (by decide) HR8.out);clear z0 hz0 HR8 HT9;have z1:=HR9.out.cell 1 _ rfl;have hz1:=HR9.out.lt;go_wp2_with (go_at_fn 87;refine hold ?_);refine unhold ?_;refine (stput_any sl 8 bb (by decide) _ w _ HB9.out (by (rw [List.length_append,leI_len];omega))).mono ?_;rintro e w10 ⟨rfl,hbx,htx⟩;have HB10:=lh hbx;have HT10:=lh htx;clear hbx htx HB9;have HR10:=lh (HT10.out gb _ _ (by decide) (by decide) HR9.out);clear z1 hz1 HR9 HT10;have z2:=HR10.out.cell 2 _ rfl;have hz2:=HR10.out.lt
       go_wp2_with (go_at_fn 87;refine hold ?_);refine unhold ?_;refine (stput_any sg 8 bb (by decide) _ w _ HB10.out (by (rw [List.length_append,List.length_append,leI_len,leI_len];omega))).mono ?_;rintro e w11 ⟨rfl,hbx,htx⟩;have HB11:=lh hbx;have HT11:=lh htx;clear hbx htx HB10;clear z2 hz2 HR10 HT11;go_wp2;go_roundw
       case rel=>exact ⟨q+1,bq++leI sa 8++leI sl 8++leI sg 8,by omega,by go_num,(by show _=_;rw [HST.out,HBQ.out];simp only [List.append_assoc]),by simp only [List.length_append,leI_len];omega,HB11.out⟩
       case measure=>simp [intOf];omega
      ·have hqe:q=m:=by omega
       subst hqe;have hsa:X.sums.take q=X.sums:=List.take_of_length_le (by rw [HML.out];exact Nat.le_refl _);rw [hsa] at HBQ;go_wp2;go_roundw
       case rel =>
        refine ⟨i+1,bq,by omega,by go_num,?_,by omega,HB.out⟩;show _=_;rw [HTK.out,HBQ.out,HBJ.out,HBS.out,HRA.out.n];simp only [recB,List.append_assoc]
       case measure=>simp [intOf];omega
  ·have hie:i=np:=by omega
   subst hie;have hall:(P.map fun p=>p.2).take i=P.map fun p=>p.2:=List.take_of_length_le (by rw [List.length_map,← HNP.out];exact Nat.le_refl _);rw [hall] at HBS;have x4:=(HROW.out _ HB.out.keep).cell 4 _ rfl;have hg4:=HGT.out _ HB.out.keep;go_wp2_with (go_at_fn 87;refine hold ?_);refine unhold ?_;refine (stput_any (nn:Int) 4 bb (by decide) _ w _ HB.out (by omega)).mono ?_;rintro e w6 ⟨rfl,hbx,htx⟩;have HB6:=lh hbx;have HT6:=lh htx;clear hbx htx HB;clear x4 hg4 HT6;have x4:=(HROW.out _ HB6.out.keep).cell 4 _ rfl;have hg6:=HGT.out _ HB6.out.keep;go_wp2;clear x4 hg6;go_loopw [99] (fun vj wq=>∃ (j:Nat) (bj:List UInt8),j≤nn∧vj=.int .i64 j∧Hid (bj=bs++leI nn 4++((N.map fun p=>p.2).take j).flatMap nodeB)∧bj.length≤11+7000*i+900000*j∧Hid (StB wq w bb bj)) (fun vj _=>nn-(intOf vj).toNat)
   case atStart=>exact ⟨0,bs++leI nn 4,Nat.zero_le _,rfl,(by show _=_;simp),by rw [List.length_append,leI_len];omega,HB6.out⟩
   case round =>
    clear HB6;obtain ⟨j,bj,hj,rfl,HBJ,hjl,HB⟩:=hrel
    by_cases hjn:j<nn
    ·have hjN:j<N.length:=by rw [← HNN.out];exact hjn
     have hs5:=HS.out.keep HB.out.keep;obtain ⟨gn,rfl,-⟩:=vown_some hs5.nodes (by rw [List.length_map];omega);obtain ⟨hnc,_,hgn,_⟩:=own_at hs5.nodes nc_len (by rw [List.length_map];exact HNN.out.symm) j (by rw [List.length_map];exact hjN);have hna:=HS.out.na N[j] (List.getElem_mem hjN);have hkl:=HKD.out N[j] (List.getElem_mem hjN);have HTK:=lh (show ((N.map fun p=>p.2).take (j+1)).flatMap nodeB=((N.map fun p=>p.2).take j).flatMap nodeB++nodeB N[j].2 by
      rw [List.take_succ_eq_append_getElem (by rw [List.length_map];exact hjN),List.flatMap_append];simp)
     rw [List.getElem_map] at hnc;generalize N[j]=pq at hnc hna hkl HTK;obtain ⟨y,Y⟩:=pq;simp only at hnc hna hkl HTK;have y0:=hnc 0 _ rfl;have y1:=hnc 1 _ rfl;have y2:=hnc 2 _ rfl;have y3:=hnc 3 _ rfl;have hyl:y.l=Y.kids.length:=by
      obtain ⟨A1,c1,h1,_⟩:=hna.own.sl kd_len (by omega);injection h1
     rw [hyl] at y3;rw [hna.d] at y0;rw [hna.lo] at y1;rw [hna.hi] at y2;simp only [Nat.add_zero] at y0;have hnao:=hna.own;rw [hyl] at hnao;have HNA:=lh hnao;obtain ⟨kl,hkl0⟩:∃ kl,kl=Y.kids.length:=⟨_,rfl⟩;rw [← hkl0] at y3 hkl HNA;have HKL:=lh hkl0;clear hnc hna hs5 hjN hyl hnao hkl0;go_upto_region 29 with fail;have hr8:=row_alloc wr 117 [.int .i64 Y.depth,.int .i64 Y.lo,.int .i64 Y.hi,.slice y.A kl y.c];have hr8:Row (wr.alloc (.cells #[.int .i64 Y.depth,.int .i64 Y.lo,.int .i64 Y.hi,.slice y.A kl y.c] 117)) wr.heap.size 117 [.int .i64 Y.depth,.int .i64 Y.lo,.int .i64 Y.hi,.slice y.A kl y.c]:=hr8;have HB8:=lh (HB.out.keep' (Keep.alloc (Keep.refl wr) (.cells #[.int .i64 Y.depth,.int .i64 Y.lo,.int .i64 Y.hi,.slice y.A kl y.c] 117)));generalize wr.alloc (.cells #[.int .i64 Y.depth,.int .i64 Y.lo,.int .i64 Y.hi,.slice y.A kl y.c] 117)=w8 at hr8 HB8 ⊢;generalize wr.heap.size=gb at hr8 ⊢;have HR8:=lh hr8;clear y0 y1 y2 y3 hgn HB hr8;have z0:=HR8.out.cell 0 _ rfl;have hz0:=HR8.out.lt;go_wp2_with (go_at_fn 87;refine hold ?_);refine unhold ?_;refine (stput_any (Y.depth:Int) 1 bb (by decide) _ w _ HB8.out (by omega)).mono ?_;rintro e w9 ⟨rfl,hbx,htx⟩;have HB9:=lh hbx;have HT9:=lh htx;clear hbx htx HB8;have HR9:=lh (HT9.out gb _ _ (by decide) (by decide) HR8.out);clear z0 hz0 HR8 HT9;have z1:=HR9.out.cell 1 _ rfl;have hz1:=HR9.out.lt;go_wp2_with (go_at_fn 87;refine hold ?_);refine unhold ?_
     refine (stput_any (Y.lo:Int) 4 bb (by decide) _ w _ HB9.out (by (rw [List.length_append,leI_len];omega))).mono ?_;rintro e w10 ⟨rfl,hbx,htx⟩;have HB10:=lh hbx;have HT10:=lh htx;clear hbx htx HB9;have HR10:=lh (HT10.out gb _ _ (by decide) (by decide) HR9.out);clear z1 hz1 HR9 HT10;have z2:=HR10.out.cell 2 _ rfl;have hz2:=HR10.out.lt;go_wp2_with (go_at_fn 87;refine hold ?_);refine unhold ?_;refine (stput_any (Y.hi:Int) 4 bb (by decide) _ w _ HB10.out (by (rw [List.length_append,List.length_append,leI_len,leI_len];omega))).mono ?_;rintro e w11 ⟨rfl,hbx,htx⟩;have HB11:=lh hbx;have HT11:=lh htx;clear hbx htx HB10;have HR11:=lh (HT11.out gb _ _ (by decide) (by decide) HR10.out);clear z2 hz2 HR10 HT11;have z3:=HR11.out.cell 3 _ rfl;have hz3:=HR11.out.lt;go_wp2_with (go_at_fn 87;refine hold ?_);refine unhold ?_;refine (stput_any (kl:Int) 4 bb (by decide) _ w _ HB11.out (by (rw [List.length_append,List.length_append,List.length_append,leI_len,leI_len,leI_len];omega))).mono ?_;rintro e w12 ⟨rfl,hbx,htx⟩;have HB12:=lh hbx;have HT12:=lh htx;clear hbx htx HB11;have HR12:=lh (HT12.out gb _ _ (by decide) (by decide) HR11.out);clear z3 hz3 HR11 HT12;have z3:=HR12.out.cell 3 _ rfl;have hz3:=HR12.out.lt;go_wp2;clear z3 hz3 HR12
     go_loopw [123] (fun vq wq=>∃ (q:Nat) (bq:List UInt8),q≤kl∧vq=.int .i64 q∧Hid (bq=bj++(leI Y.depth 1++leI Y.lo 4++leI Y.hi 4++leI kl 4)++(Y.kids.take q).flatMap fun q=>leI (wrap64 (q.1+1)) 4++leI q.2 4)∧bq.length≤11+7000*i+900000*j+13+8*q∧Hid (StB wq w bb bq)) (fun vq _=>kl-(intOf vq).toNat)
     case atStart=>exact ⟨0,bj++leI Y.depth 1++leI Y.lo 4++leI Y.hi 4++leI kl 4,Nat.zero_le _,rfl,(by show _=_;simp),by simp only [List.length_append,leI_len];omega,HB12.out⟩
     case round =>
      clear HB12;obtain ⟨q,bq,hq,rfl,HBQ,hql,HB⟩:=hrel
      by_cases hqm:q<kl
      ·have hos:=HNA.out.keep HB.out.keep;have hqs:q<Y.kids.length:=by rw [← HKL.out];exact hqm
       obtain ⟨gs,hgs,hln⟩:=vown_some hos (by omega);rw [hgs] at hos;obtain ⟨c0,_,hgsl,_⟩:=own_at hos kd_len hln.symm q hqs;have HST:=lh (show (Y.kids.take (q+1)).flatMap (fun q=>leI (wrap64 (q.1+1)) 4++leI q.2 4)=(Y.kids.take q).flatMap (fun q=>leI (wrap64 (q.1+1)) 4++leI q.2 4)++(leI (wrap64 (Y.kids[q].1+1)) 4++leI Y.kids[q].2 4) by
        rw [List.take_succ_eq_append_getElem hqs,List.flatMap_append];simp)
       generalize Y.kids[q]=s at c0 HST;obtain ⟨sa,sn⟩:=s;have c0a:=c0 0 _ rfl;have c0b:=c0 1 _ rfl;simp only [Nat.add_zero] at c0a;clear c0 hos hqs hln;go_upto_region 36 with fail;have hr8:=row_alloc wr 119 [.int .i64 sa,.int .i64 sn];have hr8:Row (wr.alloc (.cells #[.int .i64 sa,.int .i64 sn] 119)) wr.heap.size 119 [.int .i64 sa,.int .i64 sn]:=hr8;have HB8:=lh (HB.out.keep' (Keep.alloc (Keep.refl wr) (.cells #[.int .i64 sa,.int .i64 sn] 119)));generalize wr.alloc (.cells #[.int .i64 sa,.int .i64 sn] 119)=w8 at hr8 HB8 ⊢;generalize wr.heap.size=gk at hr8 ⊢;have HR8:=lh hr8;clear c0a c0b hgsl HB hr8 hgs;have z0:=HR8.out.cell 0 _ rfl;have hz0:=HR8.out.lt;go_wp2_with (go_at_fn 87;refine hold ?_);refine unhold ?_;refine (stput_any (wrap64 (sa+1)) 4 bb (by decide) _ w _ HB8.out (by omega)).mono ?_;rintro e w9 ⟨rfl,hbx,htx⟩;have HB9:=lh hbx;have HT9:=lh htx;clear hbx htx HB8;have HR9:=lh (HT9.out gk _ _ (by decide) (by decide) HR8.out);clear z0 hz0 HR8 HT9;have z1:=HR9.out.cell 1 _ rfl;have hz1:=HR9.out.lt;go_wp2_with (go_at_fn 87;refine hold ?_);refine unhold ?_;refine (stput_any (sn:Int) 4 bb (by decide) _ w _ HB9.out (by (rw [List.length_append,leI_len];omega))).mono ?_;rintro e w10 ⟨rfl,hbx,htx⟩;have HB10:=lh hbx;have HT10:=lh htx;clear hbx htx HB9;clear z1 hz1 HR9 HT10;go_wp2;go_roundw
       case rel=>exact ⟨q+1,bq++leI (wrap64 (sa+1)) 4++leI sn 4,by omega,by go_num,(by show _=_;rw [HST.out,HBQ.out];simp only [List.append_assoc]),by simp only [List.length_append,leI_len];omega,HB10.out⟩
       case measure=>simp [intOf];omega
      ·have hqe:q=kl:=by omega
       have HQE:=lh hqe;have hsa:Y.kids.take q=Y.kids:=List.take_of_length_le (by rw [hqe,HKL.out];exact Nat.le_refl _);rw [hsa] at HBQ;clear hsa hqe;go_wp2;go_roundw
       case rel =>
        refine ⟨j+1,bq,by omega,by go_num,?_,by omega,HB.out⟩;show _=_;rw [HTK.out,HBQ.out,HBJ.out];simp only [nodeB,List.append_assoc,HKL.out]
       case measure=>simp [intOf];omega
    ·have hje:j=nn:=by omega
     have hall2:(N.map fun p=>p.2).take j=N.map fun p=>p.2:=List.take_of_length_le (by rw [List.length_map,← HNN.out,hje];exact Nat.le_refl _);rw [hall2] at HBJ;obtain ⟨⟨v,hrow,hown⟩,hlo,hkeep⟩:=HB.out;obtain ⟨Av,cv,hv⟩:=own_form hown;subst hv;have x0:=hrow.cell 0 _ rfl;have hbb2:=hrow.lt;have HOW:=lh hown;have HKP:=lh hkeep;clear hrow hown hlo hkeep hall2;go_wp2;go_ret;refine ⟨_,rfl,?_,HKP.out⟩;have h:=HOW.out;have e:bj=treeB k m (P.map fun p=>p.2) (N.map fun p=>p.2):=by
      rw [HBJ.out,HBS.out];simp only [treeB,List.length_map,← HNP.out,← HNN.out]
     rw [← e]
     first|exact h|(rw [hbb];exact h)|(rw [← hbb];exact h)
end Go.Proofs.YtpkocnpamcchcaaGreatDoor
namespace Go.Proofs.YtpkocnpamcchcaaGreatDoor
open Go.RowKit Go.Zone Go.Shelf
attribute [local go_sem] zone stepZ fill lookFs goes goesUpon dropFs cell_gro frozen_gro size_gro lt_add drew_gro tape_gro keep_refl
attribute [local go_sem] lt_add2 lt_add3 lt_add4 lt_add5 lt_add6 lt_add7 lt_add8 lt_add9 lt_add10 lt_add11 lt_add12
def itoaS(p:Nat):ByteArray:=⟨(Lib.itoa (p:Int)).toArray⟩
def TabP(w:World):Prop:=Lib.TabIs Tryz.prog w "internal/strconv.uint64pow10" .u64 Lib.pow10Tab
theorem TabP.keep{w w':World}(h:TabP w)(hk:Keep w w'):TabP w':=by
 unfold TabP Lib.TabIs World.var? at *
 cases hg:Tryz.prog.globalNamed "internal/strconv.uint64pow10" with
 | none=>simp [hg] at h
 | some g =>
   simp only [hg,Option.bind_some] at h ⊢;have hlt:g<w.heap.size:=by
    rcases Nat.lt_or_ge g w.heap.size with h'|h'
    ·exact h'
    ·rw [Array.getElem?_eq_none h'] at h
     cases h
   rw [hk.block g hlt];exact h
theorem keep_sgrow(w:World)(k:Nat)(os:Array Obj):Keep w (Go.Sort.grow (w.drewN k) os):=by
 have h:=Keep.drewN (Keep.refl w) k;refine ⟨h.os,h.tape,h.output,by simp [Go.Sort.grow],fun i hi=>?_⟩;simp only [Go.Sort.grow];rw [Array.getElem?_append_left (by simpa using hi)];exact h.block i hi
theorem itoa_any(p:Nat)(hp:p≤1000)(w:World)(ht:TabP w):Calls Tryz.prog 68 #[.int .i64 p] w fun e w'=>e=.returned (.string (itoaS p))∧Keep w w':=by
 refine Calls.mono (Any.strconv_Itoa Tryz.itoaL (p:Int) (by omega) (by omega) w ht) ?_;rintro e w' ⟨rfl,k,os,rfl⟩;exact ⟨rfl,keep_sgrow w k os⟩
theorem itoaS_size(p:Nat)(hp:p<1000):(itoaS p).size≤3:=by
 have h:Lib.itoa (p:Int)=Lib.decDigits p:=by
  unfold Lib.itoa;rw [if_neg (by omega),Int.toNat_natCast]
 show (Lib.itoa (p:Int)).toArray.size≤3;rw [h,List.size_toArray,Lib.decDigits_length,Lib.nDigits]
 split
 ·omega
 ·rw [Lib.nDigits]
  split
  ·omega
  ·rw [Lib.nDigits,dif_pos (by omega)];omega
theorem elt_i6:Elt Tryz.prog 54 2 1 8:=by
 obtain ⟨i,hi,h1,h2,h3⟩:=info_parts (show (Tryz.prog.info? 2).map (fun i=>(i.zero,i.size,i.bytes))=some (some (.int .i64 0),1,8) by kernel_rfl);exact ⟨i,_,Tryz.underlying54,hi,h1,h2,h3,rfl,by decide,by decide⟩
theorem elt_mt:Elt Tryz.prog 50 54 1 24:=by
 obtain ⟨i,hi,h1,h2,h3⟩:=info_parts (show (Tryz.prog.info? 54).map (fun i=>(i.zero,i.size,i.bytes))=some (some (.slice none 0 0),1,24) by kernel_rfl);exact ⟨i,_,Tryz.underlying50,hi,h1,h2,h3,rfl,by decide,by decide⟩
theorem ir_len(x:Ir):x.cells.length=1:=rfl
theorem ir_one(x:Ir):∀ u∈x.cells,u.oneCell'=true:=by simp [Ir.cells,Value.oneCell']
abbrev OwnMt(w:World)(base:Nat)(v:Value)(L:List Ir):Prop:=Own w base 54 1 Ir.cells v L
abbrev OwnI6(w:World)(base:Nat)(r:Ir):Prop:=Own w base 2 1 i64V r.v r.xs
theorem own_noU8{α:Type}{w:World}{base k:Nat}{e:TypeId}{enc:α→List Value}{v:Value}{xs:List α}(h:Own w base e k enc v xs)(he:e≠5):∀ i,v.ownBlock=some i→NoU8 w i:=fun i hi cs r hq=>by
 rcases h.2 with ⟨rfl,_⟩ | ⟨g,cap,cur,rfl,_,hg,_⟩
 ·cases hi
 ·simp only [Value.ownBlock,Option.some.injEq] at hi;subst hi;rw [hg] at hq;simp only [Option.some.injEq,Obj.cells.injEq] at hq;exact he hq.2.1
def numsV(xs:List Val):List Int:=xs.map fun x=>x.n
theorem number_any{L s0 v r p f o I Q M:Value}(b base:Nat)(S:List Sec)(MT:List Ir)(X:Option Addr)(mR pl:Nat)(rows:List Rw)(w:World)(hR:Row w b 77 (mkC L s0 v r p f (.slice X rows.length mR) o I Q M))(hX:Sl w 1 Rw.cells X mR rows)(hRA:RowsAt w rows)(hrl:rows.length≤1000000)
 (hO:OwnC w base o S) (hS:SecsO w S) (hM:OwnMt w base M MT) (hMr:∀ r∈MT,OwnI6 w base r) (hb:b<base) (hbase:base≤w.heap.size) (hl:S.length≤10000) (hml:MT.length≤10000) (w0:World) (hk0:Keep w0 w) (hb0:w0.heap.size≤b) (htab:TabP w0) (hp:pl<1000) :
 Calls Tryz.prog 33 #[.pointer (some ⟨b,0,none⟩),.int .i64 pl] w fun e w'=>e=.returned (.tuple #[])∧∃ o' M' A c rr,Row w' b 77 (mkC L s0 v r p f (.slice X rows.length mR) o' I Q M')∧OwnC w' base o' (S++[⟨⟨#[109,101,116,114,105,99,46]⟩++itoaS pl,A,c,metF (numsV (colV (rows.map (·.vs)) pl))⟩])∧SecsO w' (S++[⟨⟨#[109,101,116,114,105,99,46]⟩++itoaS pl,A,c,metF (numsV (colV (rows.map (·.vs)) pl))⟩]) ∧
  OwnMt w' base M' (MT++[rr])∧(∀ r∈MT++[rr],OwnI6 w' base r)∧rr.xs=numsV (colV (rows.map (·.vs)) pl)∧Turn w w' (b :: (o.ownBlock.toList++M.ownBlock.toList)):=by
 have HTC:=lh (tcol_any X mR pl rows w hX hRA (by omega));have hxl:(colV (rows.map (·.vs)) pl).length=rows.length:=by simp [colV]
 generalize colV (rows.map (·.vs)) pl=xs at hxl HTC ⊢;have HR:=lh hR;have HO:=lh hO;have HS:=lh hS;obtain ⟨Am,cm,hvm⟩:=own_form hM;subst hvm;have HM:=lh hM;have HMR:=lh hMr;have HXL:=lh hxl;have htab':=htab;have HTAB:=lh htab;generalize hrn:rows.length=n at *;have x6:=hR.cell 6 _ rfl;have hlt:=hR.lt;clear hR hX hRA hO hS hM hMr htab hxl;go_enter Tryz.func33,Tryz.ntmps33;go_wp2_with (go_at_call 66;refine hold ?_);refine unhold ?_;refine HTC.out.mono ?_;rintro e w1 ⟨g1,rfl,hrow1,hg1,hk1⟩;have HSL:=lh (hrow1.sl_blk val_len (by rw [HXL.out];omega) (Nat.le_of_eq HXL.out) (by omega):Sl w1 3 Val.cells (some ⟨g1,0,none⟩) n xs);have HK1:=lh hk1;clear hk1 hrow1 hg1 HTC x6;go_wp2;go_loopw [4,16] (fun vl vi wr=>∃ k:Nat,k≤n∧vi=.int .i64 k∧Hid (Own wr w1.heap.size 2 1 i64V vl ((numsV xs).take k))∧Hid (Keep w1 wr)) (fun _ vi _=>n-(intOf vi).toNat)
 case atStart=>exact ⟨0,Nat.zero_le _,rfl,Own.nil_ _ _ _ _ _,Keep.refl _⟩
 case round =>
  obtain ⟨k,hk,rfl,HL,HK⟩:=hrel;obtain ⟨Al,cl,hvl⟩:=own_form HL.out;have hll:((numsV xs).take k).length=k:=by rw [List.length_take];simp [numsV,HXL.out];omega
  rw [hll] at hvl;subst hvl
  by_cases hkn:k<n
  ·have hkx:k<xs.length:=by rw [HXL.out];exact hkn
   obtain ⟨b2,off2,hA2,hb2,c0,c1,c2⟩:=sl_val (HSL.out.keep HK.out) k hkx
   cases hA2
   simp only [Nat.zero_add] at c0 c1 c2;have HTK:=lh (show (numsV xs).take (k+1)=(numsV xs).take k++[xs[k].n] by
    rw [List.take_succ_eq_append_getElem (by simp [numsV];exact hkx)];simp [numsV])
   generalize xs[k]=x at c0 c1 c2 HTK;obtain ⟨xk,xn,xst⟩:=x;simp only at c0 c1 c2 HTK;have HLL:=lh hll;clear hkx hll;go_wp2_with (at_builtin;refine hold ?_);refine unhold ?_;have hke:Keep wr ((wr.alloc (.cells #[.int .u8 xk,.int .i64 xn,.string xst] 72)).alloc (.cells #[.int .i64 xn] 2)):=Keep.alloc (Keep.alloc (Keep.refl _) _) _;have hsl:Sl ((wr.alloc (.cells #[.int .u8 xk,.int .i64 xn,.string xst] 72)).alloc (.cells #[.int .i64 xn] 2)) 1 i64V (some ⟨wr.heap.size+1,0,none⟩) 1 [xn]:=sl_one _ (by omega) (by omega) fun j u hu=>by
    match j,hu with
    | 0,hu=>cases hu;simp [go_sem]
   generalize (wr.alloc (.cells #[.int .u8 xk,.int .i64 xn,.string xst] 72)).alloc (.cells #[.int .i64 xn] 2)=w5 at hke hsl ⊢;have HL5:=lh (HL.out.keep hke);have HK5:=lh (HK.out.trans hke);refine wpList_app elt_i6 i64_len i64_one rfl (.tmp 20) (.tmp 23) rfl (ys:=[xn]) HL5.out rfl rfl hsl (by rw [HLL.out];simp;omega) HK5.out.size ?_;intro v9 w9 hown9 hg9 _;have HO9:=lh hown9;have HK9:=lh (HL5.out.kept hg9 HK5.out (Nat.le_refl _));clear hown9 hg9 hsl hke c0 c1 c2;go_wp2;go_roundw
   case rel=>exact ⟨k+1,by omega,by go_num,(by show Own _ _ _ _ _ _ _;rw [HTK.out];exact HO9.out),HK9.out⟩
   case measure=>simp [intOf];omega
  ·have hke:k=n:=by omega
   subst hke;have hall:(numsV xs).take k=numsV xs:=List.take_of_length_le (by simp [numsV,HXL.out]);rw [hall] at HL hll;have hkw:=HK1.out.trans HK.out;have x10:=(HR.out.keep hkw).cell 10 _ rfl;have hbw:=(HR.out.keep hkw).lt;have HKW:=lh hkw;have HNL:=lh hll;have hmlm:MT.length≤10000:=hml;generalize hmt:MT.length=ml at x10 HM HR;have HMT:=lh hmt;clear hall hkw hll hmt;go_upto_region 6 with fail;go_wp2_with (at_builtin;refine hold ?_);refine unhold ?_;have hke:Keep wr (wr.alloc (.cells #[.slice Al k cl] 54)):=Keep.alloc (Keep.refl _) _;have hsl:Sl (wr.alloc (.cells #[.slice Al k cl] 54)) 1 Ir.cells (some ⟨wr.heap.size,0,none⟩) 1 [(⟨Al,cl,numsV xs⟩:Ir)]:=sl_one _ (by omega) (by omega) fun j u hu=>by
    match j,hu with
    | 0,hu =>
      cases hu
      have h:=(row_alloc wr 54 [.slice Al k cl]).cell 0 _ rfl;show World.cell? _ _=some (.slice Al (numsV xs).length cl);rw [HNL.out];exact h
   generalize wr.alloc (.cells #[.slice Al k cl] 54)=w5 at hke hsl ⊢;have HM5:=lh (HM.out.keep (HKW.out.trans hke));have HR5:=lh (HR.out.keep (HKW.out.trans hke));have HK5:=lh (HKW.out.trans hke);have HL5:=lh (HL.out.keep hke);refine wpList_app elt_mt ir_len ir_one rfl (.tmp 30) (.tmp 32) rfl (ys:=[(⟨Al,cl,numsV xs⟩:Ir)]) HM5.out rfl rfl hsl (by rw [HMT.out];simp;have:=HMT.out;omega) (Nat.le_trans hbase HK5.out.size) ?_;intro v9 w9 hown9 hg9 hd9;obtain ⟨A9,c9,hv9⟩:=own_form hown9;rw [List.length_append,HMT.out,List.length_singleton] at hv9;subst hv9;have hr9:=row_grown HR5.out hg9 (own_row_ne HM5.out HR5.out (by decide));have HR9:=lh hr9;have HNE9:=lh (own_row_ne hown9 hr9 (by decide));have HM9:=lh hown9;have HT9:=lh (show Turn w w9 (b :: (Value.slice Am ml cm).ownBlock.toList) from (Turn.keep HK5.out _).trans ((Turn.of_grown hg9).mono fun i hi=>.inl (List.mem_cons_of_mem _ hi)));have HLB:=lh (show Own w9 w1.heap.size 2 1 i64V (.slice Al k cl) (numsV xs) from HL5.out.turn (Turn.of_grown hg9) fun i hi=>own_own_ne HM5.out HL5.out (by decide) i (by simpa using hi));have HMRB:=lh (show ∀ r∈MT,OwnI6 w9 base r from fun r hr=>((HMR.out r hr).keep HK5.out).turn (Turn.of_grown hg9) fun i hi=>own_own_ne HM5.out ((HMR.out r hr).keep HK5.out) (by decide) i (by simpa using hi));clear x10 hbw;have x10:=hr9.cell 10 _ rfl;have f10:=hr9.soft 10;have hbw:=hr9.lt;clear hown9 hg9 hd9 hr9 hsl hke HM5 HR5 HK5 HL5;go_upto_region 7 with fail;have hT10:=Turn.set w9 ⟨b,10,none⟩ (.slice A9 (ml+1) c9)
   have hsetr:=HR9.out.set 10 (.slice A9 (ml+1) c9);have hM10:OwnMt (w9.setCell ⟨b,10,none⟩ (.slice A9 (ml+1) c9)) base (.slice A9 (ml+1) c9) (MT++[(⟨Al,cl,numsV xs⟩:Ir)]):=HM9.out.turn hT10 fun i hi=>by simp only [List.mem_singleton] at hi;subst hi;exact HNE9.out
   have hbne:∀ {r:Ir} {bs:Nat},Own w9 bs 2 1 i64V r.v r.xs→Own (w9.setCell ⟨b,10,none⟩ (.slice A9 (ml+1) c9)) bs 2 1 i64V r.v r.xs:=fun h=>h.turn hT10 fun i hi=>by simp only [List.mem_singleton] at hi;subst hi;exact own_row_ne h HR9.out (by decide)
   have HM10:=lh hM10;have HMR10:=lh (show ∀ r∈MT,OwnI6 (w9.setCell ⟨b,10,none⟩ (.slice A9 (ml+1) c9)) base r from fun r hr=>hbne (HMRB.out r hr));have HL10:=lh (show Own (w9.setCell ⟨b,10,none⟩ (.slice A9 (ml+1) c9)) w1.heap.size 2 1 i64V (.slice Al k cl) (numsV xs) from HLB.out.turn hT10 fun i hi=>by simp only [List.mem_singleton] at hi;subst hi;exact own_row_ne HLB.out HR9.out (by decide));have HT10:=lh (show Turn w (w9.setCell ⟨b,10,none⟩ (.slice A9 (ml+1) c9)) (b :: (Value.slice Am ml cm).ownBlock.toList) from HT9.out.trans (hT10.mono fun i hi=>.inl (by simp only [List.mem_singleton] at hi;simp [hi])));have HR10:=lh (show Row (w9.setCell ⟨b,10,none⟩ (.slice A9 (ml+1) c9)) b 77 (mkC L s0 v r p f (.slice X k mR) o I Q (.slice A9 (ml+1) c9)) from hsetr);clear hT10 hsetr hM10 hbne x10 f10 hbw HM9 HMRB HLB HT9 HNE9 HR9;generalize w9.setCell ⟨b,10,none⟩ (.slice A9 (ml+1) c9)=w10 at HM10 HMR10 HL10 HT10 HR10 ⊢;obtain ⟨A2,c2,hv2,hsl2⟩:=HL10.out.sl i64_len (by rw [HNL.out];omega);injection hv2 with e1 e2 e3;subst e1;subst e3;have hmo:=mof_any Al cl (numsV xs) w10 hsl2 (by rw [HNL.out];omega);rw [HNL.out] at hmo;have HMO:=lh hmo;clear hmo hsl2 e2;go_wp2_with (go_at_call 67;refine hold ?_);refine unhold ?_;refine HMO.out.mono ?_;rintro e w11 ⟨bc,Ac,cc,rfl,hmet,hk11⟩;have HMET:=lh hmet;have HK11:=lh hk11;clear hmet hk11 HMO;have HK0:=lh (show Keep w0 w11 from (Turn.after hk0 HT10.out (fun i hi=>by
    simp only [List.mem_cons,Option.mem_toList] at hi
    rcases hi with hi|hi
    ·omega
    ·have:=(HM.out.lt i hi).1;omega)).trans HK11.out)
   have hmemT:∀ i∈b :: (Value.slice Am ml cm).ownBlock.toList,i=b∨(Value.slice Am ml cm).ownBlock=some i:=fun i hi=>by simpa using hi
   have HO10:=lh (show OwnC w10 base o S from Own.turn HO.out HT10.out fun i hi e=>by
    rcases hmemT i hi with h|h
    ·subst h;exact own_row_ne HO.out HR.out (by decide) e
    ·exact own_own_ne HM.out HO.out (by decide) i h e)
   have HS10:=lh (HS.out.turn HT10.out fun i hi _=>by
    rcases hmemT i hi with h|h
    ·subst h;exact Row.noU8 HR.out (by decide)
    ·exact own_noU8 HM.out (by decide) i h)
   have HB10:=lh (show base≤w10.heap.size from Nat.le_trans hbase HT10.out.size);have HTB:=lh (fun W (hW:Keep w11 W)=>itoa_any pl (by omega) W (htab'.keep (HK0.out.trans hW)));clear hmemT;have y0:=(HR10.out.keep HK11.out).lt;have hds:=itoaS_size pl hp;generalize hss:itoaS pl=ss at HTB hds;have HSS:=lh hss;clear hss;obtain ⟨qs,hqs⟩:∃ qs,ss.size=qs:=⟨_,rfl⟩;have hqs3:qs≤3:=hqs ▸ hds;clear hds;go_wp2_with (go_at_call 68;refine hold ?_);refine unhold ?_;refine (HTB.out _ (Keep.refl _)).mono ?_;rintro e w12 ⟨rfl,hk12⟩;have HK12:=lh hk12;clear hk12 HTB;have hmb:Calls Tryz.prog 69 #[.pointer (some ⟨bc,0,none⟩)] w12 fun e w'=>∃ v,e=.returned v∧OwnB w' w12.heap.size v (metF (numsV xs))∧Keep w12 w':=mbytes_any w12 (HMET.out.keep HK12.out) (by rw [HNL.out];omega);have hlen:(metF (numsV xs)).length≤140737488355328:=by
    have h9:∀ l:List Int,(l.flatMap le64).length=8*l.length:=fun l=>by
     induction l with
     | nil=>rfl
     | cons a l ih=>rw [List.flatMap_cons,List.length_append,ih,List.length_cons];simp [le64,le_len];omega
    unfold metF;simp only [List.length_append,le_len,h9,HNL.out];simp [le64,le_len];omega
   generalize hbs:metF (numsV xs)=bs at hmb hlen;have HBS:=lh hbs;have HMB:=lh hmb;clear hmb hbs;go_wp2_with (go_at_call 69;refine hold ?_);refine unhold ?_;refine HMB.out.mono ?_;rintro e w13 ⟨v13,rfl,hob,hk13⟩;obtain ⟨A13,c13,rfl,_⟩:=hob.sl b8_len hlen;have HB13:=lh (hob.base_mono (Nat.zero_le _));have HK13:=lh (HK11.out.trans (HK12.out.trans hk13));clear hob hk13 HMB hlen;go_wp2_with (go_at_call 30;refine hold ?_);refine unhold ?_;refine (put_secs b base S _ A13 c13 bs _ (HR10.out.keep HK13.out) (HO10.out.keep HK13.out) hb (Nat.le_trans HB10.out HK13.out.size) (by omega) (HS10.out.keep HK13.out) HB13.out).mono ?_;rintro e w14 ⟨rfl,o',hR14,hO14,hS14,hT14,_⟩;have HR14:=lh hR14;have HO14:=lh hO14;have HS14:=lh hS14;have HT14:=lh hT14;clear hR14 hO14 hS14 hT14;go_wp2;have hm14:∀ i∈b :: o.ownBlock.toList,i=b∨o.ownBlock=some i:=fun i hi=>by simpa using hi
   have hr13:=HR10.out.keep HK13.out;have ho13:=HO10.out.keep HK13.out;have hM14:OwnMt w14 base (.slice A9 (ml+1) c9) (MT++[(⟨Al,cl,numsV xs⟩:Ir)]):=(HM10.out.keep HK13.out).turn HT14.out fun i hi=>by
    rcases hm14 i hi with h|h
    ·subst h;exact own_row_ne (HM10.out.keep HK13.out) hr13 (by decide)
    ·exact own_own_ne ho13 (HM10.out.keep HK13.out) (by decide) i h
   have hI14:∀ {rr:Ir} {bs:Nat},Own w13 bs 2 1 i64V rr.v rr.xs→Own w14 bs 2 1 i64V rr.v rr.xs:=fun ho=>ho.turn HT14.out fun i hi=>by
    rcases hm14 i hi with h|h
    ·subst h;exact own_row_ne ho hr13 (by decide)
    ·exact own_own_ne ho13 ho (by decide) i h
   have hrr:OwnI6 w13 base ⟨Al,cl,numsV xs⟩:=by
    have h:=(HL10.out.keep HK13.out).base_mono (Nat.le_trans hbase HK1.out.size);unfold OwnI6 Ir.v;rw [HNL.out];exact h
   refine bodyPost_end (v:=.tuple #[]) (by simp [results,Tryz.results33,go_sem]) rfl ⟨rfl,o',.slice A9 (ml+1) c9,A13,c13,⟨Al,cl,numsV xs⟩,HR14.out,?_,?_,hM14,?_,rfl,?_⟩
   ·rw [HBS.out,HSS.out];exact HO14.out
   ·rw [HBS.out,HSS.out];exact HS14.out
   ·intro r hr
    rcases List.mem_append.1 hr with hr|hr
    ·exact hI14 ((HMR10.out r hr).keep HK13.out)
    ·rw [List.mem_singleton] at hr;subst hr;exact hI14 hrr
   ·refine ((HT10.out.mono fun i hi=>.inl ?_).trans (Turn.keep HK13.out _)).trans (HT14.out.mono fun i hi=>.inl ?_)
    ·rw [List.mem_cons] at hi ⊢
     rcases hi with hi|hi
     ·exact .inl hi
     ·exact .inr (List.mem_append_right _ (by rw [HMT.out];exact hi))
    ·rw [List.mem_cons] at hi ⊢
     rcases hi with hi|hi
     ·exact .inl hi
     ·exact .inr (List.mem_append_left _ hi)
end Go.Proofs.YtpkocnpamcchcaaGreatDoor
