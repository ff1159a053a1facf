/- Parts of the proof. -/
import Derived.Lib.SliceRun
import Derived.Test.YtpkocnpamcchcaaGreatDoorK04
set_option maxRecDepth 100000
set_option maxHeartbeats 4000000
set_option linter.unusedSimpArgs false
set_option linter.unusedVariables false
set_option linter.unnecessarySimpa false
namespace Go.Proofs.YtpkocnpamcchcaaGreatDoor
open Go.RowKit Go.Zone Go.Shelf
attribute [local go_sem] zone stepZ fill lookFs goes goesUpon dropFs cell_gro frozen_gro size_gro lt_add drew_gro tape_gro keep_refl
attribute [local go_sem high] run_eq_val run_ne_val run_eqG_val
theorem own_form{α:Type}{w:World}{base k:Nat}{e:TypeId}{enc:α→List Value}{v:Value}{xs:List α}(h:Own w base e k enc v xs):∃ A c,v=.slice A xs.length c:=by
 rcases h.2 with ⟨rfl,h0⟩ | ⟨g,cap,cur,rfl,_⟩
 ·exact ⟨none,0,by rw [h0]⟩
 ·exact ⟨_,_,rfl⟩
theorem clone_any(A:Option Addr)(c:Nat)(xs:List Val)(w:World)(h:Sl w 3 Val.cells A c xs)(hl:xs.length≤1000000000) :
 Calls Tryz.prog 116 #[.slice A xs.length c] w fun e w'=>∃ A' c',e=.returned (.slice A' xs.length c')∧Own w' w.heap.size 72 3 Val.cells (.slice A' xs.length c') xs∧Keep w w':=by
 have hn:=fun W:World=>Lib.run_eql_slice_nil W 56 72 A xs.length c 0 0 Tryz.underlying56
 cases A with
 | none =>
   have hx:xs=[]:=by
    rcases xs with _ | ⟨y,r⟩
    ·rfl
    ·obtain ⟨_,_,hA,_⟩:=h.at_ 0 (by simp)
     cases hA
   subst hx;simp only [List.length_nil,Option.isNone_none] at hn ⊢;go_enter Tryz.func116,Tryz.ntmps116;go_wp2;go_ret;exact ⟨none,0,rfl,Own.nil_ _ _ _ _ _,Keep.refl _⟩
 | some ad =>
   have H:=lh h;clear h;go_enter Tryz.func116,Tryz.ntmps116;go_wp2_with (at_builtin;refine hold ?_);refine unhold ?_;have HO1:Own (w.alloc (.cells #[] 72)) w.heap.size 72 3 Val.cells (.slice (some ⟨w.heap.size,0,none⟩) 0 0) ([]:List Val):=World.ownsRow_made w #[] 0 (Nat.le_refl _) (by unfold maxLen;omega) rfl;refine wpList_app elt_val val_len val_one rfl (.tmp 5) (.tmp 6) rfl (ys:=xs) HO1 rfl rfl (H.out.keep (by repeat first|exact kp0|apply kp1|apply kp2|apply kp3|apply kp4)) (by simp;omega) (by simp) ?_;intro v1 w1 hown1 hg1 _;have ⟨a1,a2,a3⟩:=HO1.after (w:=w) hg1 (by repeat first|exact kp0|apply kp1|apply kp2|apply kp3|apply kp4) (Nat.le_refl _);clear hn a2 a3;go_wp2;go_ret;simp only [List.nil_append] at hown1;obtain ⟨A',c',hv⟩:=own_form hown1;exact ⟨A',c',by rw [← hv];rfl,by rw [← hv];exact hown1,a1⟩
def ddTo(xs:List Val):Nat→List Val
 | 0=>[]
 | m+1=>if m=0∨eqV (xs.getD m default) (xs.getD (m-1) default)=false then ddTo xs m++[xs.getD m default] else ddTo xs m
theorem ddTo_len(xs:List Val):∀ m,(ddTo xs m).length≤m
 | 0=>Nat.le_refl _
 | m+1=>by
   have:=ddTo_len xs m;unfold ddTo
   split<;>simp<;>omega
theorem ddTo_all(xs:List Val):∀ m,m≤xs.length→(∀ j,0<j→j<m→eqV (xs.getD j default) (xs.getD (j-1) default)=false)→ddTo xs m=xs.take m
 | 0,_,_=>by simp [ddTo]
 | m+1,hm,h=>by
   have ih:=ddTo_all xs m (by omega) fun j h0 hj=>h j h0 (by omega);have hc:m=0∨eqV (xs.getD m default) (xs.getD (m-1) default)=false:=by
    rcases Nat.eq_zero_or_pos m with h0|h0
    ·exact .inl h0
    ·exact .inr (h m h0 (by omega))
   rw [ddTo,if_pos hc,ih,List.take_succ_eq_append_getElem (by omega)];simp [show m<xs.length by omega]
def compactV(xs:List Val):List Val:=ddTo xs xs.length
theorem flatMap_set:∀ (L:List Val) (k:Nat) (y:Val),k<L.length→(L.set k y).flatMap Val.cells=(((L.flatMap Val.cells).set (k*3) (.int .u8 y.k)).set (k*3+1) (.int .i64 y.n)).set (k*3+2) (.string y.s)
 | [],k,_,h=>by simp at h
 | x :: r,0,y,_=>by simp [Val.cells]
 | x :: r,k+1,y,h=>by
   have ih:=flatMap_set r k y (by simpa using h);simp only [List.set_cons_succ,List.flatMap_cons,ih];rw [show (k+1)*3=k*3+3 by omega];simp [Val.cells,Nat.add_right_comm _ 3]
theorem own_set{w:World}{base g c k:Nat}{L:List Val}(h:Own w base 72 3 Val.cells (.slice (some ⟨g,0,none⟩) L.length c) L)(hk:k<L.length)(y:Val) :
 Own (((w.setCell ⟨g,k*3,none⟩ (.int .u8 y.k)).setCell ⟨g,k*3+1,none⟩ (.int .i64 y.n)).setCell ⟨g,k*3+2,none⟩ (.string y.s)) base 72 3 Val.cells (.slice (some ⟨g,0,none⟩) L.length c) (L.set k y) ∧
 w.grownBy (((w.setCell ⟨g,k*3,none⟩ (.int .u8 y.k)).setCell ⟨g,k*3+1,none⟩ (.int .i64 y.n)).setCell ⟨g,k*3+2,none⟩ (.string y.s)) (some g):=by
 rcases h.2 with ⟨h0,_⟩ | ⟨g',cap,cur,hv,hb,hg,hn,hm,hs,ht⟩
 ·cases h0
 ·injection hv with hA _ hc;injection hA with hA;injection hA with hA;subst hA;subst hc;rw [setCell_eq_setRow w g (k*3) cur _ (0,0) _ hg,setCell_eq_setRow _ g (k*3+1) _ _ (0,0) _ (setRow_heap w g cur _ _ _ hg),setRow_setRow,setCell_eq_setRow _ g (k*3+2) _ _ (0,0) _ (setRow_heap w g cur _ _ _ hg),setRow_setRow];refine ⟨⟨by rw [flat_len val_len],.inr ⟨g,c,_,by simp,hb,setRow_heap w g cur _ _ _ hg,by simpa using hn,hm,by simpa using hs,?_⟩⟩,rfl,rfl,rfl,by simp,fun j _ hj=>setRow_other w g j _ (fun e=>hj (by rw [e]))⟩;rw [flatMap_set L k y hk,← ht];simp [List.take_set]
theorem own_frozen{w:World}{base g c n:Nat}{L:List Val}(h:Own w base 72 3 Val.cells (.slice (some ⟨g,0,none⟩) n c) L):∀ i,w.frozen? ⟨g,i,none⟩=false:=by
 rcases h.2 with ⟨h0,_⟩ | ⟨g',cap,cur,hv,hb,hg,hn,hm,hs,ht⟩
 ·cases h0
 ·injection hv with hA _ hc;injection hA with hA;injection hA with hA;subst hA;intro i;simp [World.frozen?,hg]
theorem wrap_pred{k:Nat}(h0:0<k)(h:k≤1000000000000):IntKind.i64.wrap ((k:Int)-1)=((k-1:Nat):Int):=by rw [IntWalk.i64_in _ ⟨by omega,by omega⟩];omega
theorem zeroV(w:World):(zeroValue 72).run Tryz.prog w=.ok (.agg #[.int .u8 0,.int .i64 0,.string ByteArray.empty]) w:=by kernel_rfl
theorem take_set_succ{α:Type}:∀ (L:List α) (q:Nat) (y:α),q<L.length→(L.set q y).take (q+1)=L.take q++[y]
 | [],q,_,h=>by simp at h
 | x :: r,0,y,_=>by simp
 | x :: r,q+1,y,h=>by
   have:=take_set_succ r q y (by simpa using h);simp only [List.set_cons_succ,List.take_succ_cons,List.cons_append,this]
theorem grownBy_trans{a b c:World}{g:Nat}(h:a.grownBy b (some g))(k:b.grownBy c (some g)):a.grownBy c (some g) :=
 ⟨k.os.trans h.os,k.tape.trans h.tape,k.output.trans h.output,Nat.le_trans h.size k.size,fun i hi hn=>(k.block i (Nat.lt_of_lt_of_le hi h.size) hn).trans (h.block i hi hn)⟩
theorem grownBy_keep{a b:World}{g:Nat}(k:Keep a b):a.grownBy b (some g):=⟨k.os,k.tape,k.output,k.size,fun i hi _=>k.block i hi⟩
theorem own_clear{w:World}{base g c n q:Nat}{L:List Val}(hn:n=L.length)(h:Own w base 72 3 Val.cells (.slice (some ⟨g,0,none⟩) n c) L)(hq:q<n) :
 ∃ w',(∀ ty,(Builtin.clear_ #[56] ty #[.slice (some ⟨g,q*3,none⟩) (n-q) (c-q)]).run Tryz.prog w=.ok (.tuple #[]) w')∧Own w' base 72 3 Val.cells (.slice (some ⟨g,0,none⟩) q c) (L.take q)∧w.grownBy w' (some g):=by
 subst hn
 rcases h.2 with ⟨h0,_⟩ | ⟨g',cap,cur,hv,hb,hg,hn,hm,hs,ht⟩
 ·cases h0
 ·injection hv with hA _ hc;injection hA with hA;injection hA with hA;subst hA;subst hc;have hzl:(Builtin.zeroCells #[.int .u8 0,.int .i64 0,.string ⟨#[]⟩] (L.length-q)).toList.length=(L.length-q)*3:=by simp [Builtin.zeroCells]
  have hzo:∀ v∈(Builtin.zeroCells #[.int .u8 0,.int .i64 0,.string ⟨#[]⟩] (L.length-q)).toList,v.oneCell'=true:=by
   intro v hv;simp only [Builtin.zeroCells,Array.toList_map,List.mem_map] at hv;obtain ⟨i,_,rfl⟩:=hv;have:i%3<3:=Nat.mod_lt _ (by decide);show (#[Value.int .u8 0,.int .i64 0,.string ⟨#[]⟩][i%3]!).oneCell'=true;generalize i%3=m at this
   match m,this with
   | 0,_=>rfl
   | 1,_=>rfl
   | 2,_=>rfl
  have hst:=run_storeCells_at (P:=Tryz.prog) g (q*3) 72 _ 0 cur w hg (by rw [hzl,hs];omega) hzo;simp only [Nat.add_zero] at hst;generalize hX:(List.take (q*3) cur.toList++(Builtin.zeroCells #[.int .u8 0,.int .i64 0,.string ⟨#[]⟩] (L.length-q)).toList++List.drop (q*3+(Builtin.zeroCells #[.int .u8 0,.int .i64 0,.string ⟨#[]⟩] (L.length-q)).toList.length) cur.toList).toArray=X at hst;refine ⟨w.setRow g X,fun ty=>?_,⟨?_,.inr ⟨g,c,X,?_,hb,setRow_heap w g cur _ _ _ hg,?_,hm,?_,?_⟩⟩,rfl,rfl,rfl,by simp,fun j _ hj=>setRow_other w g j _ (fun e=>hj (by rw [e]))⟩
  ·obtain ⟨m,hm'⟩:∃ m,L.length-q=m+1:=⟨L.length-q-1,by omega⟩;rw [hm'] at hst ⊢;simp only [Builtin.clear_];simp [run_underlying Tryz.underlying56,zeroV,Value.cells,hst]
  ·rw [flat_len val_len]
  ·simp [Nat.le_of_lt hq]
  ·simp;omega
  ·rw [← hX];simp [hzl,hs];omega
  ·rw [← hX];simp only [List.length_take,Nat.min_eq_left (Nat.le_of_lt hq)];have e1:(L.take q).flatMap Val.cells=(L.flatMap Val.cells).take (q*3):=by
    have:=flat_len val_len (L.take q)
    conv=>rhs;rw [← List.take_append_drop q L,List.flatMap_append]
    rw [List.take_left'];rw [this];simp [Nat.min_eq_left (Nat.le_of_lt hq)]
   rw [e1,← ht,List.take_take,Nat.min_eq_left (by omega)];simp only [List.append_assoc];rw [List.take_left'];simp;omega
theorem compact_any(A:Option Addr)(c:Nat)(xs:List Val)(base:Nat)(w:World)(h:Own w base 72 3 Val.cells (.slice A xs.length c) xs)(hl:xs.length≤1000000000) :
 Calls Tryz.prog 118 #[.slice A xs.length c] w fun e w'=>∃ A' c',e=.returned (.slice A' (compactV xs).length c')∧Own w' base 72 3 Val.cells (.slice A' (compactV xs).length c') (compactV xs)∧w.grownBy w' (Value.slice A xs.length c).ownBlock:=by
 by_cases h2:xs.length<2
 ·have hd:Hid (compactV xs=xs):=by
   show _=_;unfold compactV;rw [ddTo_all xs xs.length (Nat.le_refl _) (fun j h0 hj=>by omega),List.take_length]
  go_enter Tryz.func118,Tryz.ntmps118;go_wp2;go_ret;exact ⟨A,c,by rw [hd.out];rfl,by rw [hd.out];exact h,rfl,rfl,rfl,Nat.le_refl _,fun _ _ _=>rfl⟩
 ·rcases h.2 with ⟨_,h0⟩ | ⟨g,cap,cur,hv,hb,hg,hn,hm,hs,ht⟩
  ·omega
  ·injection hv with hA _ hc;subst hA;subst hc;clear hb hg hs ht cur;unfold maxLen at hm;have HO:=lh h;clear h;go_enter Tryz.func118,Tryz.ntmps118;go_wp2;go_loopw [3] (fun vk wr=>∃ (k:Nat),0<k∧k≤xs.length∧vk=.int .i64 k∧Hid (Keep w wr)∧Hid (∀ j,0<j→j<k→eqV (xs.getD j default) (xs.getD (j-1) default)=false)) (fun vk _=>xs.length-(intOf vk).toNat)
   case atStart=>exact ⟨1,by omega,by omega,rfl,Keep.refl _,fun j h0 hj=>by omega⟩
   case round =>
    obtain ⟨k,hk0,hk,rfl,HK,HD⟩:=hrel;have HO1:=lh (HO.out.keep HK.out)
    by_cases hlt:k<xs.length
    ·obtain ⟨A1,c1,hv1,hsl⟩:=HO1.out.sl val_len (by omega);injection hv1 with hv1 _ hv2;subst hv1;subst hv2;obtain ⟨b,off,hA,hbx,c0,c1,c2⟩:=sl_val hsl k hlt;obtain ⟨b',off',hA',hbx',d0,d1,d2⟩:=sl_val hsl (k-1) (by omega)
     cases hA;cases hA'
     clear hsl;simp only [Nat.zero_add] at c0 c1 c2 d0 d1 d2
     cases he:eqV xs[k] xs[k-1]
     ·unfold eqV at he;have hw:=wrap_pred hk0 (by omega);have hk1:k-1<xs.length:=by omega
      go_wp2
      first|refine Zone.wp_region_all_gro (by kernel_rfl) (by kernel_rfl) ?_|refine Zone.wp_region_all (by kernel_rfl) (by kernel_rfl) ?_
      repeat
       refine Zone.wpZ_step (fun K hK=>?_);go_simp
       first
       | (refine hK _ _ ?_;clear hK K)
       | (apply Exists.intro
          refine ⟨fun p=>?_,hK _ _ ?_⟩
          (fail)
          clear hK K)
      refine Zone.wpZ_nil ?_;intro p;simp only [Zone.fill];have HE:=lh he;clear hw he;go_wp2;go_roundw
      case rel=>exact ⟨k+1,by omega,by omega,by go_num,HK.out.gro _,fun j h0 hj=>by
       by_cases e:j=k
       ·subst e;have:=HE.out
        simpa [eqV,hlt,hk1] using this
       ·exact HD.out j h0 (by omega)⟩
      case measure=>simp [intOf];omega
     ·unfold eqV at he;have hw:=wrap_pred hk0 (by omega);have hk1:k-1<xs.length:=by omega
      have hkc:k<c:=by omega
      go_wp2
      first|refine Zone.wp_region_all_gro (by kernel_rfl) (by kernel_rfl) ?_|refine Zone.wp_region_all (by kernel_rfl) (by kernel_rfl) ?_
      repeat
       refine Zone.wpZ_step (fun K hK=>?_);go_simp
       first
       | (refine hK _ _ ?_;clear hK K)
       | (apply Exists.intro
          refine ⟨fun p=>?_,hK _ _ ?_⟩
          (fail)
          clear hK K)
      refine Zone.wpZ_nil ?_;intro p;simp only [Zone.fill];have HE:=lh he;clear hw he;have hdd:Hid (xs.take k=ddTo xs (k+1)):=by
       show _=_;have h0:=ddTo_all xs k (by omega) HD.out;rw [ddTo,if_neg,h0];intro h1
       rcases h1 with h1|h1
       ·omega
       ·have h3:=HE.out;simp only [eqV,List.getD_eq_getElem?_getD,List.getElem?_eq_getElem hlt,List.getElem?_eq_getElem hk1,Option.getD_some] at h1;rw [h1] at h3
        cases h3
      clear HE HD c0 c1 c2 d0 d1 d2;go_wp2;go_loopw [3,5] (fun vk vi wq=>∃ (q i:Nat) (L:List Val),0<i∧i≤xs.length-k∧q<k+i∧vk=.int .i64 q∧vi=.int .i64 i∧Hid (L.length=xs.length)∧Hid (Own wq base 72 3 Val.cells (.slice (some ⟨g,0,none⟩) xs.length c) L)∧Hid (w.grownBy wq (some g)) ∧
       Hid (L.take q=ddTo xs (k+i))∧Hid (∀ j,k+i-1≤j→L.getD j default=xs.getD j default)) (fun _ vi _=>xs.length-(intOf vi).toNat)
      case atStart=>exact ⟨k,1,xs,by omega,by omega,by omega,rfl,rfl,rfl,HO1.out.keep (below_gro _ _),⟨HK.out.os,HK.out.tape,HK.out.output,by simp [size_gro];have:=HK.out.size;omega,fun j hj _=>(below_gro wr p).block j (Nat.lt_of_lt_of_le hj HK.out.size) |>.trans (HK.out.block j hj)⟩,hdd.out,fun j _=>rfl⟩
      case round =>
       obtain ⟨q,i,L,hi0,hi,hq,rfl,rfl,HL,HO2,HG,HT,HR⟩:=hrel
       by_cases hlt2:i<xs.length-k
       ·have hkL:k+i<L.length:=by have:=HL.out;omega
        have hkL1:k+i-1<L.length:=by omega
        have hqL:q<L.length:=by omega
        have HO2':=HO2.out;rw [← HL.out] at HO2';obtain ⟨A1,c1,hv1,hsl⟩:=HO2'.sl val_len (by have:=HL.out;omega);injection hv1 with hv1 _ hv2;subst hv1;subst hv2;obtain ⟨b,off,hA,hbx1,c0,c1,c2⟩:=sl_val hsl (k+i) hkL;obtain ⟨b',off',hA',_,d0,d1,d2⟩:=sl_val hsl (k+i-1) hkL1;obtain ⟨b'',off'',hA'',_,e0,e1,e2⟩:=sl_val hsl q hqL
        cases hA;cases hA';cases hA''
        have hfz:=own_frozen HO2';have g0:L[k+i]=xs[k+i]'(by omega):=by
         have:=HR.out (k+i) (by omega)
         simpa [hkL,show k+i<xs.length by omega] using this
        have g1:L[k+i-1]=xs[k+i-1]'(by omega):=by
         have:=HR.out (k+i-1) (by omega)
         simpa [hkL1,show k+i-1<xs.length by omega] using this
        rw [g0] at c0 c1 c2;rw [g1] at d0 d1 d2;have f0:=hfz (q*3);have f1:=hfz (q*3+1);have f2:=hfz (q*3+2);have hsd:ddTo xs (k+i+1)=if k+i=0∨eqV (xs[k+i]'(by omega)) (xs[k+i-1]'(by omega))=false then ddTo xs (k+i)++[xs[k+i]'(by omega)] else ddTo xs (k+i):=by
         rw [ddTo];simp [show k+i<xs.length by omega,show k+i-1<xs.length by omega]
        clear hsl hfz g0 g1 HO2';rw [show 0+(k+i)*3=k*3+i*3 by omega] at c0 c1 c2;rw [show 0+(k+i-1)*3=k*3+(i-1)*3 by omega] at d0 d1 d2;simp only [Nat.zero_add] at e0 e1 e2;have hw:=wrap_pred hi0 (by omega);have hi1:i-1<xs.length-k:=by omega
        have hqn:q<xs.length:=by omega
        cases he:eqV (xs[k+i]'(by omega)) (xs[k+i-1]'(by omega))
        ·have hs2:=hsd;rw [if_pos (.inr he)] at hs2;have HSD:=lh hs2;clear hsd hs2;unfold eqV at he;generalize xs[k+i]'(by omega)=y at c0 c1 c2 he HSD;go_wp2
         first|refine Zone.wp_region_all_gro (by kernel_rfl) (by kernel_rfl) ?_|refine Zone.wp_region_all (by kernel_rfl) (by kernel_rfl) ?_
         repeat
                  refine Zone.wpZ_step (fun K hK=>?_);go_simp
                  first
                  | (refine hK _ _ ?_;clear hK K)
                  | (apply Exists.intro
                     refine ⟨fun p=>?_,hK _ _ ?_⟩
                     (fail)
                     clear hK K)
         refine Zone.wpZ_nil ?_;intro p2;simp only [Zone.fill];clear hw he;have HO3:=HO2.out.keep (below_gro wr p2);rw [← HL.out] at HO3;obtain ⟨HO4,HG4⟩:=own_set HO3 hqL y;rw [HL.out] at HO4;have HO5:=lh HO4;have HG5:=lh HG4;clear HO3 HO4 HG4;go_wp2;go_roundw
         case rel=>exact ⟨q+1,i+1,L.set q y,by omega,by omega,by omega,by go_num,by go_num,(by show _=_;simp [HL.out]),HO5.out,grownBy_trans (grownBy_trans HG.out (grownBy_keep (below_gro wr p2))) HG5.out,
                  (by show _=_;rw [take_set_succ _ _ _ hqL,HT.out,← Nat.add_assoc,HSD.out]),fun j hj=>by
                have:=HR.out j (by omega);rw [← this];simp only [List.getD_eq_getElem?_getD];rw [List.getElem?_set_ne (by omega)]⟩
         case measure=>simp [intOf];omega
        ·have hs2:=hsd;rw [if_neg (by simp [he];omega)] at hs2;have HSD:=lh hs2;clear hsd hs2;unfold eqV at he;go_wp2
         first|refine Zone.wp_region_all_gro (by kernel_rfl) (by kernel_rfl) ?_|refine Zone.wp_region_all (by kernel_rfl) (by kernel_rfl) ?_
         repeat
                  refine Zone.wpZ_step (fun K hK=>?_);go_simp
                  first
                  | (refine hK _ _ ?_;clear hK K)
                  | (apply Exists.intro
                     refine ⟨fun p=>?_,hK _ _ ?_⟩
                     (fail)
                     clear hK K)
         refine Zone.wpZ_nil ?_;intro p2;simp only [Zone.fill];clear hw he;go_wp2;go_roundw
         case rel=>exact ⟨q,i+1,L,by omega,by omega,by omega,rfl,by go_num,HL.out,HO2.out.keep (below_gro wr p2),grownBy_trans HG.out (grownBy_keep (below_gro wr p2)),
                  (by show _=_;rw [HT.out,← Nat.add_assoc,HSD.out]),fun j hj=>HR.out j (by omega)⟩
         case measure=>simp [intOf];omega
       ·have hil:k+i=xs.length:=by omega
        have hqn:q<xs.length:=by omega
        have hqc:q<c:=by omega
        have hcv:Hid (L.take q=compactV xs):=by
         show _=_;rw [HT.out,hil];rfl
        obtain ⟨w9,hrun,HO9,HG9⟩:=own_clear HL.out.symm HO2.out hqn;have HO8:=lh HO9;have HG8:=lh HG9;have hql:Hid (q=(compactV xs).length):=by
         show _=_;rw [← hcv.out,List.length_take,HL.out];omega
        clear hil HO9 HG9;go_wp2;go_ret;refine ⟨some ⟨g,0,none⟩,c,by rw [← hql.out];rfl,?_,grownBy_trans HG.out HG8.out⟩;rw [← hql.out,← hcv.out];exact HO8.out
    ·go_wp2;go_ret;have hd:compactV xs=xs:=by
      unfold compactV;rw [ddTo_all xs xs.length (Nat.le_refl _) (fun j h0 hj=>HD.out j h0 (by omega)),List.take_length]
     exact ⟨some ⟨g,0,none⟩,c,by rw [hd];rfl,by rw [hd];exact HO1.out,HK.out.os,HK.out.tape,HK.out.output,HK.out.size,fun j hj _=>HK.out.block j hj⟩
end Go.Proofs.YtpkocnpamcchcaaGreatDoor
namespace Go.Proofs.YtpkocnpamcchcaaGreatDoor
open Go.RowKit Go.Zone Go.Shelf
attribute [local go_sem] zone stepZ fill lookFs goes goesUpon dropFs cell_gro frozen_gro size_gro lt_add drew_gro tape_gro keep_refl
structure DictAt(w:World)(b:Nat)(kind:Int)(A:Option Addr)(c:Nat)(xs:List Val):Prop where
 k:w.cell? ⟨b,0,none⟩=some (.int .u8 kind)
 l:w.cell? ⟨b,1,none⟩=some (.slice A xs.length c)
 sl:Sl w 3 Val.cells A c xs
theorem DictAt.keep{w w':World}{b:Nat}{kind:Int}{A:Option Addr}{c:Nat}{xs:List Val}(h:DictAt w b kind A c xs)(hk:Keep w w'):DictAt w' b kind A c xs :=
 ⟨(Below.cell hk (p:=⟨b,0,none⟩) (World.block_lt_of_cell? w _ h.k)).trans h.k,(Below.cell hk (p:=⟨b,1,none⟩) (World.block_lt_of_cell? w _ h.l)).trans h.l,h.sl.keep hk⟩
theorem DictAt.lt{w:World}{b:Nat}{kind:Int}{A:Option Addr}{c:Nat}{xs:List Val}(h:DictAt w b kind A c xs):b<w.heap.size:=World.block_lt_of_cell? w _ h.k
def badKind(kind:Int):Bool:=!(kind==1||kind==2)
def dOwn(xs:List Val):List Val:=compactV (sortV xs)
def dErr(kind:Int)(xs:List Val):Int:=if badKind kind then 2 else if xs.any noMay then 2 else if (dOwn xs).any (fun x=>x.k != kind) then 9 else 0
def DictNew(base:Nat)(w:World)(v:Value)(kind:Int)(ys:List Val)(err:Int):Prop:=(err≠0∧v=.pointer none)∨(err=0∧∃ b A c,v=.pointer (some ⟨b,0,none⟩)∧DictAt w b kind A c ys∧base≤b∧Fresh base A ys.length)
theorem sortV_len(xs:List Val):(sortV xs).length=xs.length:=List.length_mergeSort _
theorem dOwn_len(xs:List Val):(dOwn xs).length≤xs.length:=by
 have:=ddTo_len (sortV xs) (sortV xs).length;rw [sortV_len] at this;exact sortV_len xs ▸ this
theorem of_new(kind:Int)(A:Option Addr)(c:Nat)(xs:List Val)(w:World)(h:Sl w 3 Val.cells A c xs)(hl:xs.length≤1000000) :
 Calls Tryz.prog 70 #[.int .u8 kind,.slice A xs.length c] w fun e w'=>∃ v,e=.returned (.tuple #[v,.int .i64 (dErr kind xs)])∧DictNew w.heap.size w' v kind (dOwn xs) (dErr kind xs)∧Keep w w':=by
 have hkind:=fun W=>isKind_any kind W;generalize hD:dOwn xs=ys;have HD:=lh hD;clear hD;generalize hR:dErr kind xs=R;have HR:=lh hR;clear hR
 cases hb:(kind==1||kind==2)
 ·have hr:R=2:=by rw [← HR.out];unfold dErr badKind;rw [hb];rfl
  rw [hb] at hkind;have HK:=lh hkind;clear hkind;subst hr;go_enter Tryz.func70,Tryz.ntmps70;go_wp2_with (go_at_call 113;refine (HK.out _).mono ?_;rintro e w' ⟨rfl,rfl⟩);go_ret2;exact ⟨_,rfl,.inl ⟨by decide,rfl⟩,(by repeat first|exact kp0|apply kp1|apply kp2|apply kp3|apply kp4)⟩
 ·rw [hb] at hkind;have HK:=lh hkind;clear hkind;have hcon:=fun W (hW:Keep w W)=>containsFunc_any A c xs 115 #[] noMay W (enters_of Tryz.func115 (by kernel_rfl) rfl) (h.keep hW) (fun W' x _=>of1_any x W')
  cases hm:xs.any noMay
  ·rw [hm] at hcon;have HC:=lh hcon;clear hcon;have hr:R=if (dOwn xs).any (fun x=>x.k != kind) then 9 else 0:=by rw [← HR.out];unfold dErr badKind;rw [hb,hm];rfl
   have HR2:=lh hr;clear hr;have HH:=lh h;clear h;go_enter Tryz.func70,Tryz.ntmps70;go_wp2_with (first|(go_at_call 113;refine (HK.out _).mono ?_;rintro e w' ⟨rfl,rfl⟩)|(go_at_call 114;refine (HC.out _ (by repeat first|exact kp0|apply kp1|apply kp2|apply kp3|apply kp4)).mono ?_;rintro e w' ⟨rfl,hk⟩;obtain ⟨p,rfl⟩:=Zone.gro_of_below _ hk;clear hk)|(go_at_call 116;refine hold ?_));refine unhold ?_;refine (clone_any A c xs _ (HH.out.keep (by repeat first|exact kp0|apply kp1|apply kp2|apply kp3|apply kp4)) (by omega)).mono ?_;rintro e w1 ⟨A1,c1,rfl,hown1,hk1⟩;have hown0:=hown1.base_mono (base':=w.heap.size+1) (by simp [size_gro]);have hw1:Keep (w.alloc (.cells #[.int .u8 kind] 5)) w1:=Keep.trans (Keep.gro (Keep.refl _) p) hk1;have HO1:=lh hown0;have HW1:=lh hw1;clear hown0 hw1 hown1 hk1;go_wp2_with (go_at_call 117;refine hold ?_);refine unhold ?_;refine (sort_any A1 c1 xs _ _ HO1.out (by omega)).mono ?_;rintro e w2 ⟨rfl,hown2,hg2⟩;have HW2:=lh (HO1.out.after hg2 HW1.out (by simp)).1;have HO2:=lh hown2;clear hown2 hg2;rw [← sortV_len xs] at HO2;go_wp2_with (go_at_call 118;refine hold ?_);refine unhold ?_;have h9:=compact_any A1 c1 (sortV xs) _ _ HO2.out (by rw [sortV_len];omega);rw [sortV_len] at h9;refine h9.mono ?_;clear h9;rintro e w3 ⟨A3,c3,rfl,hown3,hg3⟩;have hg3':w2.grownBy w3 (Value.slice A1 (sortV xs).length c1).ownBlock:=by rw [sortV_len];exact hg3
   have HW3:=lh (HO2.out.after hg3' HW2.out (by simp)).1;have hdl:(compactV (sortV xs)).length≤1000000:=Nat.le_trans (dOwn_len xs) hl;obtain ⟨A4,c4,hv4,hsl⟩:=hown3.sl val_len (by omega);injection hv4 with hv4 _ hv5;subst hv4;subst hv5;have hbox:w3.cell? ⟨w.heap.size,0,none⟩=some (.int .u8 kind):=by rw [HW3.out.cell (p:=⟨w.heap.size,0,none⟩) (by simp)];simp [go_sem]
   have hsz:w.heap.size<w3.heap.size:=by have:=HW3.out.size;simp at this;omega
   have HSL:=lh hsl;have HFR:=lh (fresh_own (base:=w.heap.size) (m:=ys.length) hown3 (by omega));clear hsl hown3 hg3 hg3' HO1 HO2 HW1 HW2 HC HK HH;have hcon:=fun W (hW:Keep w3 W)=>containsFunc_any A3 c3 (compactV (sortV xs)) 119 #[.pointer (some ⟨w.heap.size,0,none⟩)] (fun x=>x.k != kind) W (enters_of Tryz.func119 (by kernel_rfl) rfl) (HSL.out.keep hW) (fun W' x hW'=>of2_any x kind w.heap.size W' (by
    rw [(hW.trans hW').cell (p:=⟨w.heap.size,0,none⟩) hsz];exact hbox) (by have:=(hW.trans hW').size;omega))
   have hkw:Hid (Keep w w3):=Keep.trans (Keep.alloc (Keep.refl w) _) HW3.out;have HR3:Hid (R=if (compactV (sortV xs)).any (fun x=>x.k != kind) then 9 else 0):=HR2.out;clear HR2 HR HW3;have hD':compactV (sortV xs)=ys:=HD.out;rw [hD'] at hdl HSL HR3 hcon ⊢;clear hD'
   cases hq:ys.any (fun x=>x.k != kind)
   ·rw [hq] at hcon HR3;have HC:=lh hcon;clear hcon;go_wp2_with (go_at_call 114;refine (HC.out _ (Keep.refl _)).mono ?_;rintro e w' ⟨rfl,hk⟩;obtain ⟨p2,rfl⟩:=Zone.gro_of_below _ hk;clear hk);go_ret2;have hr0:R=0:=HR3.out;subst hr0;refine ⟨_,rfl,.inr ⟨rfl,_,A3,c3,rfl,⟨?_,?_,(HSL.out.keep (below_gro _ _)).keep (Keep.alloc (Keep.refl _) _)⟩,by omega,HFR.out⟩,(hkw.out.gro _).alloc _⟩
    ·simp [go_sem]
    ·simp [go_sem]
   ·rw [hq] at hcon HR3;have HC:=lh hcon;clear hcon;go_wp2_with (go_at_call 114;refine (HC.out _ (Keep.refl _)).mono ?_;rintro e w' ⟨rfl,hk⟩;obtain ⟨p2,rfl⟩:=Zone.gro_of_below _ hk;clear hk);go_ret2;have hr9:R=9:=HR3.out;subst hr9;exact ⟨_,rfl,.inl ⟨by decide,rfl⟩,hkw.out.gro _⟩
  ·rw [hm] at hcon;have HC:=lh hcon;clear hcon;have hr:R=2:=by rw [← HR.out];unfold dErr badKind;rw [hb,hm];rfl
   subst hr;clear h;go_enter Tryz.func70,Tryz.ntmps70;go_wp2_with (first|(go_at_call 113;refine (HK.out _).mono ?_;rintro e w' ⟨rfl,rfl⟩)|(go_at_call 114;refine (HC.out _ (by repeat first|exact kp0|apply kp1|apply kp2|apply kp3|apply kp4)).mono ?_;rintro e w' ⟨rfl,hk⟩;obtain ⟨p,rfl⟩:=Zone.gro_of_below _ hk;clear hk));go_ret2;exact ⟨_,rfl,.inl ⟨by decide,rfl⟩,(by repeat first|exact kp0|apply kp1|apply kp2|apply kp3|apply kp4)⟩
def b8(b:UInt8):List Value:=[.int .u8 (b.toNat:Int)]
theorem info_u8:(Tryz.prog.info? 5).map (fun i=>(i.zero,i.size,i.bytes))=some (some (.int .u8 0),1,1):=by kernel_rfl
theorem elt_u8:Elt Tryz.prog 31 5 1 1:=by
 obtain ⟨i,hi,h1,h2,h3⟩:=info_parts info_u8;exact ⟨i,_,Tryz.underlying31,hi,h1,h2,h3,rfl,by decide,by decide⟩
theorem b8_len(x:UInt8):(b8 x).length=1:=rfl
theorem b8_one(x:UInt8):∀ u∈b8 x,u.oneCell'=true:=by simp [b8,Value.oneCell']
theorem b8_at(x:UInt8){w:World}{g:Nat}(h0:w.cell? ⟨g,0,none⟩=some (.int .u8 (x.toNat:Int))):∀ j u,(b8 x)[j]? =some u→w.cell? ⟨g,j,none⟩=some u
 | 0,u,hu=>by cases hu;exact h0
abbrev OwnB(w:World)(base:Nat)(v:Value)(bs:List UInt8):Prop:=Own w base 5 1 b8 v bs
abbrev SlB(w:World)(A:Option Addr)(c:Nat)(bs:List UInt8):Prop:=Sl w 1 b8 A c bs
theorem clone8_any(A:Option Addr)(c:Nat)(xs:List UInt8)(w:World)(h:SlB w A c xs) :
 Calls Tryz.prog 109 #[.slice A xs.length c] w fun e w'=>∃ A' c',e=.returned (.slice A' xs.length c')∧OwnB w' w.heap.size (.slice A' xs.length c') xs∧Keep w w':=by
 have hn:=fun W:World=>Lib.run_eql_slice_nil W 31 5 A xs.length c 0 0 Tryz.underlying31;have hl:=h.len
 cases A with
 | none =>
   have hx:xs=[]:=by
    rcases xs with _ | ⟨y,r⟩
    ·rfl
    ·obtain ⟨_,_,hA,_⟩:=h.at_ 0 (by simp)
     cases hA
   subst hx;simp only [List.length_nil,Option.isNone_none] at hn ⊢;go_enter Tryz.func109,Tryz.ntmps109;go_wp2;go_ret;exact ⟨none,0,rfl,Own.nil_ _ _ _ _ _,Keep.refl _⟩
 | some ad =>
   have H:=lh h;clear h;go_enter Tryz.func109,Tryz.ntmps109;go_wp2_with (at_builtin;refine hold ?_);refine unhold ?_;have HO1:OwnB (w.alloc (.cells #[] 5)) w.heap.size (.slice (some ⟨w.heap.size,0,none⟩) 0 0) ([]:List UInt8):=World.ownsRow_made w #[] 0 (Nat.le_refl _) (by unfold maxLen;omega) rfl;refine wpList_app elt_u8 b8_len b8_one rfl (.tmp 5) (.tmp 6) rfl (ys:=xs) HO1 rfl rfl (H.out.keep (by repeat first|exact kp0|apply kp1|apply kp2|apply kp3|apply kp4)) (by simp;omega) (by simp) ?_;intro v1 w1 hown1 hg1 _;have ⟨a1,a2,a3⟩:=HO1.after (w:=w) hg1 (by repeat first|exact kp0|apply kp1|apply kp2|apply kp3|apply kp4) (Nat.le_refl _);clear hn a2 a3;go_wp2;go_ret;simp only [List.nil_append] at hown1;obtain ⟨A',c',hv⟩:=own_form hown1;exact ⟨A',c',by rw [← hv];rfl,by rw [← hv];exact hown1,a1⟩
def le(n:Nat):Nat→List UInt8
 | 0=>[]
 | k+1=>le n k++[UInt8.ofNat (n/256^k)]
theorem le_len(n:Nat):∀ k,(le n k).length=k
 | 0=>rfl
 | k+1=>by simp [le,le_len n k]
theorem u8_nat(n:Nat):((UInt8.ofNat n).toNat:Int)=(n:Int)%256:=by
 simp [UInt8.toNat_ofNat]
theorem fixed_any(A:Option Addr)(c:Nat)(xs:List UInt8)(n sz:Nat)(hn:n<18446744073709551616)(hsz:sz≤8)(w:World)(h:SlB w A c xs)(hl:xs.length≤140000000000000) :
 Calls Tryz.prog 65 #[.slice A xs.length c,.int .u64 n,.int .i64 sz] w fun e w'=>∃ v,e=.returned v∧OwnB w' w.heap.size v (xs++le n sz)∧Keep w w':=by
 have HC:=lh (clone8_any A c xs w h);clear h;go_enter Tryz.func65,Tryz.ntmps65;go_wp2_with (go_at_call 109;refine hold ?_);refine unhold ?_;refine HC.out.mono ?_;rintro e w1 ⟨A1,c1,rfl,hown1,hk1⟩;have HO:=lh hown1;have HK1:=lh hk1;clear hown1 hk1 HC;go_wp2;go_loopw [10,0,1] (fun vi vb vn wr=>∃ (k m:Nat) (o:Value),k≤sz∧m<18446744073709551616∧vi=.int .i64 k∧o=vb∧Hid (OwnB wr w.heap.size o (xs++le n k))∧vn=.int .u64 m∧Hid (m=n/256^k)∧Hid (Keep w wr)∧w.heap.size≤wr.heap.size) (fun vi _ _ _=>sz-(intOf vi).toNat)
 case atStart=>exact ⟨0,n,_,by omega,hn,rfl,rfl,(by show OwnB _ _ _ _;simp only [le,List.append_nil];exact HO.out),rfl,(by show _=_;simp),HK1.out,HK1.out.size⟩
 case round =>
  obtain ⟨k,m,o,hk,hm,rfl,rfl,HO2,rfl,HM,HK2,hz⟩:=hrel
  by_cases hlt:k<sz
  ·go_wp2_with (at_builtin;refine hold ?_);refine unhold ?_;have HO3:OwnB (wr.alloc (.cells #[.int .u8 ((m:Int)%256)] 5)) w.heap.size o (xs++le n k):=HO2.out.keep (Keep.alloc (Keep.refl _) _);refine wpList_app elt_u8 b8_len b8_one rfl (.tmp 12) (.tmp 15) rfl (ys:=[UInt8.ofNat m]) HO3 rfl rfl (sl_one _ (by omega) (by omega) (b8_at _ (by rw [u8_nat];simp [go_sem]))) (by simp [le_len];omega) (by simp;omega) ?_;intro v1 w2 hown2 hg2 _;have ⟨a1,a2,a3⟩:=HO3.after hg2 (HK2.out.trans (by repeat first|exact kp0|apply kp1|apply kp2|apply kp3|apply kp4)) (Nat.le_refl _);have HO4:=lh hown2;have HA1:=lh a1;clear hown2 hg2 HO3 a3;have hm2:m/256<18446744073709551616:=by omega
   go_wp2;go_roundw
   case rel=>exact ⟨k+1,m/256,_,by omega,hm2,by go_num,rfl,(by show OwnB _ _ _ _;have:=HO4.out;rw [HM.out,List.append_assoc] at this;exact this),by go_num,(by show _=_;rw [HM.out,Nat.div_div_eq_div_mul,Nat.pow_succ]),HA1.out,by simp at a2;omega⟩
   case measure=>simp [intOf];omega
  ·have hks:k=sz:=by omega
   subst hks;go_wp2;go_ret;exact ⟨_,rfl,HO2.out,HK2.out⟩
theorem app32_any(A:Option Addr)(c:Nat)(xs:List UInt8)(n:Nat)(hn:n<4294967296)(w:World)(h:SlB w A c xs)(hl:xs.length≤140000000000000) :
 Calls Tryz.prog 31 #[.slice A xs.length c,.int .u32 n] w fun e w'=>∃ v,e=.returned v∧OwnB w' w.heap.size v (xs++le n 4)∧Keep w w':=by
 have HF:=lh (fixed_any A c xs n 4 (by omega) (by omega) w h hl);clear h;go_enter Tryz.func31,Tryz.ntmps31;go_wp2_with (go_at_call 65;refine hold ?_);refine unhold ?_;refine HF.out.mono ?_;rintro e w1 ⟨v,rfl,hown,hk⟩;go_wp2;go_ret;exact ⟨v,rfl,hown,hk⟩
theorem app64_any(A:Option Addr)(c:Nat)(xs:List UInt8)(n:Nat)(hn:n<18446744073709551616)(w:World)(h:SlB w A c xs)(hl:xs.length≤140000000000000) :
 Calls Tryz.prog 164 #[.slice A xs.length c,.int .u64 n] w fun e w'=>∃ v,e=.returned v∧OwnB w' w.heap.size v (xs++le n 8)∧Keep w w':=by
 have HF:=lh (fixed_any A c xs n 8 hn (by omega) w h hl);clear h;go_enter Tryz.func164,Tryz.ntmps164;go_wp2_with (go_at_call 65;refine hold ?_);refine unhold ?_;refine HF.out.mono ?_;rintro e w1 ⟨v,rfl,hown,hk⟩;go_wp2;go_ret;exact ⟨v,rfl,hown,hk⟩
def vu:Nat→Nat→List UInt8
 | 0,n=>[UInt8.ofNat n]
 | f+1,n=>if 127<n then UInt8.ofNat (n%128+128) :: vu f (n/128) else [UInt8.ofNat n]
theorem vu_len:∀ f n,(vu f n).length≤f+1
 | 0,_=>by simp [vu]
 | f+1,n=>by
   have:=vu_len f (n/128);simp only [vu]
   split<;>simp<;>omega
theorem u8_or(n:Nat):bits .or .u8 ((n:Int)%256) 128=((UInt8.ofNat (n%128+128)).toNat:Int):=by
 rw [u8_nat];have h:∀ k:Fin 256,bits .or .u8 ((k.val:Nat):Int) 128=((k.val%128+128:Nat):Int)%256:=by decide +kernel
 have:=h ⟨n%256,Nat.mod_lt _ (by decide)⟩;simp only at this;rw [show ((n:Int)%256)=((n%256:Nat):Int) by omega,this];omega
theorem appUint_any(A:Option Addr)(c:Nat)(xs:List UInt8)(n:Nat)(hn:n<18446744073709551616)(w:World)(h:SlB w A c xs)(hl:xs.length≤140000000000000) :
 Calls Tryz.prog 165 #[.slice A xs.length c,.int .u64 n] w fun e w'=>∃ v,e=.returned v∧OwnB w' w.heap.size v (xs++vu 9 n)∧Keep w w':=by
 have HC:=lh (clone8_any A c xs w h);clear h;go_enter Tryz.func165,Tryz.ntmps165;go_wp2_with (go_at_call 109;refine hold ?_);refine unhold ?_;refine HC.out.mono ?_;rintro e w1 ⟨A1,c1,rfl,hown1,hk1⟩;have HO:=lh hown1;have HK1:=lh hk1;clear hown1 hk1 HC;go_wp2;go_loopw [0,1] (fun vb vn wr=>∃ (f m:Nat) (o:Value) (p:List UInt8),m<18446744073709551616∧o=vb∧vn=.int .u64 m∧Hid (OwnB wr w.heap.size o (xs++p))∧Hid (p++vu f m=vu 9 n)∧p.length+f=9∧Hid (m<128^(f+1))∧Hid (Keep w wr)∧w.heap.size≤wr.heap.size) (fun _ vn _=>(intOf vn).toNat)
 case atStart=>exact ⟨9,n,_,[],hn,rfl,rfl,(by show OwnB _ _ _ _;simp only [List.append_nil];exact HO.out),rfl,rfl,(by show _<_;omega),HK1.out,HK1.out.size⟩
 case round =>
  obtain ⟨f,m,o,p,hm,rfl,rfl,HO2,HP,hpl,HM,HK2,hz⟩:=hrel
  by_cases hgt:127<(m:Int)
  ·obtain ⟨f',rfl⟩:∃ f',f=f'+1:=⟨f-1,by
    rcases f with _|f
    ·have:=HM.out;omega
    ·rfl⟩
   have HP2:Hid ((p++[UInt8.ofNat (m%128+128)])++vu f' (m/128)=vu 9 n):=by
    show _=_;rw [← HP.out,vu,if_pos (by omega),List.append_assoc];rfl
   have HM2:Hid (m/128<128^(f'+1)):=by
    show _<_;have:=HM.out;rw [Nat.pow_succ] at this;exact Nat.div_lt_of_lt_mul (by rw [Nat.mul_comm];exact this)
   go_wp2_with (at_builtin;refine hold ?_);refine unhold ?_;have HO3:OwnB (wr.alloc (.cells #[.int .u8 (bits .or .u8 ((m:Int)%256) 128)] 5)) w.heap.size o (xs++p):=HO2.out.keep (Keep.alloc (Keep.refl _) _);refine wpList_app elt_u8 b8_len b8_one rfl (.tmp 11) (.tmp 15) rfl (ys:=[UInt8.ofNat (m%128+128)]) HO3 rfl rfl (sl_one _ (by omega) (by omega) (b8_at _ (by rw [← u8_or];simp [go_sem]))) (by simp;omega) (by simp;omega) ?_;intro v1 w2 hown2 hg2 _;have ⟨a1,a2,a3⟩:=HO3.after hg2 (HK2.out.trans (by repeat first|exact kp0|apply kp1|apply kp2|apply kp3|apply kp4)) (Nat.le_refl _);have HO4:=lh hown2;have HA1:=lh a1;clear hown2 hg2 HO3 a3;have hm2:m/128<18446744073709551616:=by omega
   go_wp2;go_roundw
   case rel=>exact ⟨f',m/128,_,_,hm2,rfl,by go_num,(by show OwnB _ _ _ _;have:=HO4.out;rw [List.append_assoc] at this;exact this),HP2,by simp;omega,HM2,HA1.out,by simp at a2;omega⟩
   case measure=>simp [intOf];omega
  ·have HP2:Hid (p++[UInt8.ofNat m]=vu 9 n):=by
    show _=_;rw [← HP.out]
    cases f
    ·rfl
    ·rw [vu,if_neg (by omega)]
   go_wp2_with (at_builtin;refine hold ?_);refine unhold ?_;have HO3:OwnB (wr.alloc (.cells #[.int .u8 (m:Int)] 5)) w.heap.size o (xs++p):=HO2.out.keep (Keep.alloc (Keep.refl _) _);refine wpList_app elt_u8 b8_len b8_one rfl (.tmp 17) (.tmp 20) rfl (ys:=[UInt8.ofNat m]) HO3 rfl rfl (sl_one _ (by omega) (by omega) (b8_at _ (by rw [u8_nat,show (m:Int)%256=m by omega];simp [go_sem]))) (by simp;omega) (by simp;omega) ?_;intro v1 w2 hown2 hg2 _;have ⟨a1,a2,a3⟩:=HO3.after hg2 (HK2.out.trans (by repeat first|exact kp0|apply kp1|apply kp2|apply kp3|apply kp4)) (Nat.le_refl _);have HO4:=lh hown2;have HA1:=lh a1;clear hown2 hg2 HO3 a3;go_wp2;go_ret;exact ⟨_,rfl,(by have:=HO4.out;rw [List.append_assoc,HP2.out] at this;exact this),HA1.out⟩
end Go.Proofs.YtpkocnpamcchcaaGreatDoor
