/- Parts of the proof. -/
import Derived.Laws.CopyRow
import Derived.Test.YtpkocnpamcchcaaGreatDoorK10
set_option maxRecDepth 100000
set_option maxHeartbeats 4000000
set_option linter.unusedSimpArgs false
set_option linter.unusedVariables false
set_option linter.unnecessarySimpa false
namespace Go.Proofs.YtpkocnpamcchcaaGreatDoor
open Go.RowKit Go.Zone Go.Shelf
attribute [local go_sem] zone stepZ fill lookFs goes goesUpon dropFs cell_gro frozen_gro size_gro lt_add drew_gro tape_gro keep_refl
attribute [local go_sem] lt_add2 lt_add3 lt_add4 lt_add5 lt_add6 lt_add7 lt_add8 lt_add9 lt_add10 lt_add11 lt_add12
def MayF(many n:Nat):Prop:=(1≤many∧many≤16777216)∨(many=0∧n=0)
def wdF(many:Nat):Nat:=widthN (many-1)
theorem wdF_lo(many:Nat):1≤wdF many:=by unfold wdF widthN;omega
theorem wdF_hi(many:Nat)(h:many≤16777216):wdF many≤24:=by
 unfold wdF widthN;have:=(bitLen_le 24 (many-1) (by omega)).2 (by omega);omega
theorem wdF_fit(many x:Nat)(h:many≤16777216)(hx:x<many):x<2^wdF many:=by
 have h1:=(bitLen_le (wdF many) (many-1) (by omega)).1 (by unfold wdF widthN;omega);omega
def n64V(x:Nat):List Value:=[.int .i64 (x:Int)]
theorem n64_f(x:Nat):n64V x=[.int .i64 (x:Int)]:=rfl
theorem u64_f(x:Nat):u64V x=[.int .u64 (x:Int)]:=rfl
theorem sl_n64{w:World}{c:Nat}{A:Option Addr}{xs:List Nat}(h:Sl w 1 n64V A c xs)(i:Nat)(hi:i<xs.length):∃ b off,A=some ⟨b,off,none⟩∧b<w.heap.size∧w.cell? ⟨b,off+i,none⟩=some (.int .i64 (xs[i]:Int)):=by
 obtain ⟨b,off,hA,hc⟩:=h.at_ i hi;have h0:=hc 0 _ rfl;rw [Nat.mul_one,Nat.add_zero] at h0;exact ⟨b,off,hA,World.block_lt_of_cell? w _ h0,h0⟩
theorem info_u64:(Tryz.prog.info? 47).map (fun i=>(i.zero,i.size,i.bytes))=some (some (.int .u64 0),1,8):=by kernel_rfl
theorem fmay_any(n many:Nat)(h:MayF many n)(w:World):Calls Tryz.prog 122 #[.int .i64 n,.int .i64 many] w fun e w'=>e=.returned (.bool true)∧Keep w w':=by
 rcases h with ⟨h1,h2⟩ | ⟨rfl,rfl⟩
 ·have hd1:decide ((1:Int)≤(many:Int))=true:=by simp;omega
  have hd2:decide ((many:Int)≤16777216)=true:=by simp;omega
  go_enter Tryz.func122,Tryz.ntmps122;go_wp2
  all_goals go_ret
  all_goals exact ⟨by simp_all,(by repeat first|exact kp0|apply kp1|apply kp2|apply kp3|apply kp4)⟩
 ·exact fmay_zero w
theorem fwidth_any(many:Nat)(h:many≤16777216)(w:World):Calls Tryz.prog 123 #[.int .i64 many] w fun e w'=>e=.returned (.int .i64 (wdF many:Nat))∧Keep w w':=by
 have HW:=lh (width_any (many-1) (by omega));have hw:IntKind.u64.wrap (max ((many:Int)-1) 0)=((many-1:Nat):Int):=by
  rw [IntKind.wrap_u64]<;>omega
 go_enter Tryz.func123,Tryz.ntmps123;go_wp2_with (go_at_call 160;refine (HW.out _).mono ?_;rintro e w' ⟨rfl,hk⟩;(first|obtain ⟨p,rfl⟩:=Zone.gro_of_gro _ _ hk|obtain ⟨p,rfl⟩:=Zone.gro_of_below _ hk);clear hk);go_ret;exact ⟨rfl,(by repeat first|exact kp0|apply kp1|apply kp2|apply kp3|apply kp4)⟩
theorem fof_any(A:Option Addr)(c many:Nat)(ids:List Nat)(w:World)(h:Sl w 1 n64V A c ids)(hm:MayF many ids.length)(hl:ids.length≤16777216)(hb:∀ x∈ids,x<many) :
 Calls Tryz.prog 74 #[.slice A ids.length c,.int .i64 many] w fun e w'=>∃ b A' c',e=.returned (.tuple #[.pointer (some ⟨b,0,none⟩),.int .i64 0])∧IdxAt w' b ids.length many (wdF many) A' c' (packB ids (wdF many))∧w.heap.size≤b∧(∀ bb off,A'=some ⟨bb,off,none⟩→w.heap.size≤bb)∧Keep w w':=by
 have hmm:many≤16777216:=by rcases hm with h|h<;>omega
 have HM:=lh (fmay_any ids.length many hm);have HW:=lh (fwidth_any many hmm);have HB:=lh hb;have H:=lh h;have hcap:=h.cap;have hbig:=h.big;have HMM:=lh hmm;clear h hb hm;generalize hn:ids.length=n at hl hcap HM;have HN:=lh hn;go_enter Tryz.func74,Tryz.ntmps74;go_wp2_with (go_at_call 122;refine (HM.out _).mono ?_;rintro e w' ⟨rfl,hk⟩;(first|obtain ⟨p,rfl⟩:=Zone.gro_of_gro _ _ hk|obtain ⟨p,rfl⟩:=Zone.gro_of_below _ hk);clear hk);rename GB=>p;have hk0:Keep w (w.gro p):=below_gro _ _;generalize w.gro p=w1 at hk0 ⊢;obtain ⟨i0,hi0,i1,i2,i3⟩:=info_parts info_u64;obtain ⟨W',hr,ho,hk⟩:=own_made1 (P:=Tryz.prog) (z:=(0:Nat)) u64_f rfl Tryz.underlying104 hi0 i1 i2 n w.heap.size w1 (by rw [i3];omega) (by omega) hk0.size;rw [hr];have HO:=lh ho;have HK:=lh (hk0.trans hk);clear ho hk hr i0 hi0 i1 i2 i3 hk0;generalize w1.heap.size=g at HO ⊢;clear w1;go_wp2;go_loopw [22] (fun i wr=>∃ k:Nat,k≤n∧i=.int .i64 k∧Hid (Own wr w.heap.size 47 1 u64V (.slice (some ⟨g,0,none⟩) n n) (ids.take k++List.replicate (n-k) 0))∧Hid (Keep w wr)) (fun i _=>n-(intOf i).toNat)
 case atStart=>exact ⟨0,Nat.zero_le _,rfl,HO.out,HK.out⟩
 case round =>
  clear HO HK;obtain ⟨k,hk,rfl,HO,HK⟩:=hrel
  by_cases hlt:k<n
  ·have hlt2:k<ids.length:=by rw [HN.out];exact hlt
   obtain ⟨b,off,hA,hb,h0⟩:=sl_n64 (H.out.keep HK.out) k hlt2;have hx:=HB.out ids[k] (List.getElem_mem hlt2);have hlen:(ids.take k++List.replicate (n-k) 0).length=n:=by simp;omega
   obtain ⟨c0,c1,c2,c3⟩:=HO.out.cell1 u64_f hlen.symm k (by omega);have hset:(ids.take k++List.replicate (n-k) 0).set k ids[k]=ids.take (k+1)++List.replicate (n-(k+1)) 0:=by
    rw [List.set_append_right _ _ (by rw [List.length_take];omega),List.length_take,Nat.min_eq_left (by omega),Nat.sub_self,show n-k=(n-(k+1))+1 by omega,List.replicate_succ,List.set_cons_zero,List.take_succ_eq_append_getElem hlt2,List.append_assoc];rfl
   have ho2:=HO.out.set1 u64_f hlen.symm k ids[k] rfl;rw [hset] at ho2;generalize (ids.take k++List.replicate (n-k) 0)[k]'(by rw [hlen];exact hlt)=y at c0;have HO2:=lh ho2;have HC:=lh c3;have hw2:IntKind.u64.wrap (ids[k]:Int)=(ids[k]:Int):=by rw [IntKind.wrap_u64]<;>omega
   have hx2:(ids[k]:Int)<(many:Int):=by omega
   have hd1:decide ((many:Int)≤(ids[k]:Int))=false:=by simp;omega
   subst hA;clear ho2 hset hlen c3;go_wp2;go_roundw
   case rel=>exact ⟨k+1,by omega,by go_num,HO2.out,HK.out.setCell HC.out _⟩
   case measure=>simp [intOf];omega
  ·have hkl:k=n:=by omega
   subst hkl;rw [Nat.sub_self,List.replicate_zero,List.append_nil,← HN.out,List.take_length] at HO;have hd:decide ((16777216:Int)<(k:Int))=false:=by simp;omega
   go_wp2_with (go_at_call 123;refine hold ?_);refine unhold ?_;refine (HW.out _).mono ?_;rintro e w1 ⟨rfl,hk1⟩;have HK1:=lh (HK.out.trans hk1);have HO1:=lh (HO.out.keep hk1);clear hk1 HO HK;obtain ⟨A8,c8,hv8,hsl⟩:=HO1.out.sl (fun _=>rfl) (by omega);injection hv8 with hv8 _ hc8;subst hv8;subst hc8;have hp:=pack_any (some ⟨g,0,none⟩) ids.length (wdF many) ids w1 hsl (wdF_lo many) (by have:=wdF_hi many HMM.out;omega) (by omega) (fun x hx=>wdF_fit many x HMM.out (HB.out x hx));rw [HN.out] at hp;have HP:=lh hp;clear hp hsl;go_wp2_with (go_at_call 124;refine hold ?_);refine unhold ?_;refine HP.out.mono ?_;rintro e w2 ⟨v,rfl,hov,hk2⟩;obtain ⟨Av,cv,rfl,hsv⟩:=hov.sl b8_len (by
    have h1:ids.length*wdF many≤16777216*24:=Nat.mul_le_mul (by omega) (wdF_hi many HMM.out);simp only [packB,le_len];omega)
   have HFR:=lh (show ∀ bb off,Av=some ⟨bb,off,none⟩→w1.heap.size≤bb from fun bb off e=>(hov.lt bb (by rw [e];rfl)).1);have HSV:=lh hsv;have HK2:=lh (HK1.out.trans hk2);clear hov hsv hk2;go_wp2;exact bodyPost_ret (v:=.tuple #[.pointer (some ⟨w2.heap.size,0,none⟩),.int .i64 0]) (by simp [results,Tryz.results74,go_sem]) rfl
    ⟨w2.heap.size,Av,cv,rfl,⟨by simp [go_sem],by simp [go_sem],by simp [go_sem],by simp [go_sem],HSV.out.keep (by repeat first|exact kp0|apply kp1|apply kp2|apply kp3|apply kp4)⟩,HK2.out.size,fun bb off e=>Nat.le_trans HK1.out.size (HFR.out bb off e),HK2.out.trans (by repeat first|exact kp0|apply kp1|apply kp2|apply kp3|apply kp4)⟩
theorem may_size2{x:Val}(h:mayV x=true):x.s.size≤65535:=by
 unfold mayV at h
 split at h
 ·have h0:x.s.toList.length=0:=by rw [List.isEmpty_iff.1 h];rfl
  rw [Lib.toList_data] at h0;have:x.s.size=0:=h0;omega
 ·split at h
  ·simp only [Bool.and_eq_true,decide_eq_true_eq] at h;omega
  ·cases h
theorem err_small{kind:Int}{xs:List Val}(h:dErr kind xs=0):∀ x∈dOwn xs,x.s.size≤65535:=fun x hx=>by
 have hm:=((dOwn_sorted xs).2 x).1 hx;unfold dErr at h
 split at h
 ·cases h
 ·split at h
  ·cases h
  ·rename_i h2;refine may_size2 ?_;have:xs.any noMay=false:=by simpa using h2
   have:=List.any_eq_false.1 this x hm
   simpa [noMay] using this
theorem own_place{xs:List Val}{v:Val}(hv:v∈xs):hits (dOwn xs) v=true∧lower (dOwn xs) v<(dOwn xs).length:=by
 have hs:=dOwn_sorted xs;obtain ⟨i,hi,he⟩:=List.getElem_of_mem ((hs.2 v).2 hv);have:=(at_hit hs.1 i hi (v:=v)).1 he;exact ⟨this.1,by rw [← this.2];exact hi⟩
def idsOf(xs:List Val):List Nat:=xs.map (lower (dOwn xs))
theorem ids_lt(xs:List Val):∀ x∈idsOf xs,x<(dOwn xs).length:=fun x hx=>by
 obtain ⟨v,hv,rfl⟩:=List.mem_map.1 hx;exact (own_place hv).2
theorem own_mayF(xs:List Val)(h:xs.length≤16777216):MayF (dOwn xs).length (idsOf xs).length:=by
 have h1:=dOwn_len xs
 rcases Nat.eq_zero_or_pos (dOwn xs).length with h0|h0
 ·refine .inr ⟨h0,?_⟩;rw [idsOf,List.length_map]
  rcases xs with _ | ⟨x,r⟩
  ·rfl
  ·have:=(own_place (xs:=x :: r) (v:=x) (by simp)).2;omega
 ·exact .inl ⟨h0,by omega⟩
end Go.Proofs.YtpkocnpamcchcaaGreatDoor
namespace Go.Zone
open Go.RowKit
theorem run_copy_k{P:Program}(w:World)(dT sT ty elem:TypeId)(k g o dLen dCap:Nat)(a:Addr)(sLen sCap:Nat)(cur:Array Value)(t:TypeId)(cs:List Value)
 (hu:P.underlying dT=some (.slice elem)) (hs:(P.info? elem).map (·.size)=some k)
 (hg:w.heap[g]? =some (.cells cur t (0,0))) (hn:cs.length=Nat.min sLen dLen*k)
 (hsrc:∀ j v,cs[j]? =some v→w.cell? (a.add j)=some v) (hfit:o+cs.length≤cur.size) (h1:∀ v∈cs,v.oneCell'=true) :
 (Builtin.copy_ #[dT,sT] ty #[.slice (some ⟨g,o,none⟩) dLen dCap,.slice (some a) sLen sCap]).run P w =
   .ok (goInt (Nat.min sLen dLen)) (w.setRow g (cur.toList.take o++cs++cur.toList.drop (o+cs.length)).toArray):=by
 have hl:=run_loadCells_list (P:=P) w a cs hsrc;have hst:=run_storeCells_at P g o t cs 0 cur w hg (by simpa using hfit) h1
 cases hq:P.info? elem with
 | none=>simp [hq] at hs
 | some i =>
   have hi:i.size=k:=by simpa [hq] using hs
   simp [Builtin.copy_,run_underlying hu,Builtin.lenOf,Builtin.firstCells,sizeOf,typeInfo,hq,hi,← hn,hl,hst]
theorem step_copy_k{α:Type}{P:Program}{ops:Array Oper}{o:Oper}{a:Act}{w:World}{K:Act→World→Prop}{Q:Exit→Act→World→Prop}{N:Prop}(hgd:o.guard=none)(d s:Operand)(dT sT elem:TypeId)
 (ho:o.op=.call { callee:=.builtin .copy,args:=#[d,s],argTypes:=#[dT,sT] }) {k:Nat} (hu:P.underlying dT=some (.slice elem)) (hs:(P.info? elem).map (·.size)=some k)
 {enc:α→List Value} (hk:∀ x,(enc x).length=k) (h1:∀ x,∀ u∈enc x,u.oneCell'=true) {g dCap sCap n:Nat} {A:Option Addr} {xs:List α} {t:TypeId} {cur:List Value} (hd:a.eval d=.slice (some ⟨g,0,none⟩) n dCap) (hsv:a.eval s=.slice A n sCap) (hn:n=xs.length)
 (hx:Sl w k enc A sCap xs) (hg:Row w g t cur) (hc:cur.length=n*k)
 (h:∀ w',Row w' g t (xs.flatMap enc)→Turn w w' [g]→K (a.put o.dst (goInt n)) w'):if Region.wanted o (yielded ops a.tmps)=true then Oper.wp P o a w K Q else N:=by
 have hw:Region.wanted o (yielded ops a.tmps)=true:=by simp [Region.wanted,hgd]
 rw [if_pos hw];have hfl:=flat_len hk xs;have hmin:Nat.min n n=n:=Nat.min_self n;have hrun:(Builtin.copy_ #[dT,sT] o.type #[.slice (some ⟨g,0,none⟩) n dCap,.slice A n sCap]).run P w=.ok (goInt n) (w.setRow g (xs.flatMap enc).toArray):=by
  rcases A with _|ad
  ·have h0:xs=[]:=by
    rcases xs with _ | ⟨y,r⟩
    ·rfl
    ·obtain ⟨_,_,hA,_⟩:=hx.at_ 0 (by simp)
     cases hA
   subst h0;simp only [List.length_nil] at hn;subst hn;have hcur:cur=[]:=List.eq_nil_of_length_eq_zero (by omega);subst hcur;rw [show ((([]:List α).flatMap enc).toArray)=([]:List Value).toArray from rfl,setRow_self w g _ t (0,0) hg]
   cases hq:P.info? elem with
   | none=>simp [hq] at hs
   | some i=>simp [Builtin.copy_,run_underlying hu,Builtin.lenOf,Builtin.firstCells,sizeOf,typeInfo,hq,storeCells]
  ·have:=run_copy_k (P:=P) w dT sT o.type elem k g 0 n dCap ad n sCap cur.toArray t (xs.flatMap enc) hu hs hg (by rw [hmin,hfl,hn]) (fun j v hj=>by
    have hjl:j<xs.length*k:=by rw [← hfl];exact (List.getElem?_eq_some_iff.1 hj).1
    have hk0:0<k:=Nat.pos_of_ne_zero fun e=>by subst e;simp at hjl
    have hi:j/k<xs.length:=by rw [Nat.div_lt_iff_lt_mul hk0];exact hjl
    obtain ⟨b,off,hA,hcell⟩:=hx.at_ (j/k) hi;have hm:j/k*k+j%k=j:=by rw [Nat.mul_comm];exact Nat.div_add_mod j k
    have hlt:j%k<(enc xs[j/k]).length:=by rw [hk];exact Nat.mod_lt _ hk0
    have h2:=flat_get hk xs (j/k) (j%k) hi _ (List.getElem?_eq_getElem hlt);rw [hm,hj] at h2;injection h2 with h2;have h3:=hcell (j%k) _ (List.getElem?_eq_getElem hlt);injection hA with hA;subst hA;rw [Nat.add_assoc,hm,← h2] at h3;unfold Addr.add
    split
    ·rename_i h0;subst h0;exact h3
    ·exact h3) (by rw [Nat.zero_add,hfl,List.size_toArray,hc,hn];exact Nat.le_refl _) (fun v hv=>by
    obtain ⟨x,_,hx2⟩:=List.mem_flatMap.1 hv;exact h1 x v hx2)
   rw [this]
   congr 2
   ·rw [hmin]
   ·have:cur.drop (xs.flatMap enc).length=[]:=List.drop_eq_nil_of_le (by rw [hfl,hc,hn];exact Nat.le_refl _);rw [List.take_zero,List.nil_append,Nat.zero_add,show cur.toArray.toList=cur from rfl,this,List.append_nil]
 unfold Oper.wp execOp;simp only [ho,resolve,invoke,builtin,Sem.run_bind,Sem.run_pure,Result.andThen_ok,List.map_toArray,List.map_cons,List.map_nil,hd,hsv,hrun];exact h _ (setRow_heap w g _ _ _ _ hg) ⟨rfl,rfl,rfl,by simp [World.setRow],fun i _ hi=>Go.setRow_other w g i _ (fun e=>hi (by simp [e]))⟩
theorem Row.setRow{w:World}{g:Nat}{T:TypeId}{vs us:List Value}(h:Row w g T vs):Row (w.setRow g us.toArray) g T us:=setRow_heap w g _ _ _ _ h
theorem Row.setRow_other{w:World}{g b:Nat}{T:TypeId}{vs:List Value}(h:Row w g T vs)(us:Array Value)(hb:b≠g):Row (w.setRow b us) g T vs:=(Go.setRow_other w b g us (fun e=>hb e.symm)).trans h
theorem Keep.setRow{w0 w:World}{g:Nat}(h:Keep w0 w)(hg:w0.heap.size≤g)(cs:Array Value):Keep w0 (w.setRow g cs) :=
 ⟨h.os,h.tape,h.output,Nat.le_trans h.size (by simp [World.setRow]),fun k hk=>(setRow_other w g k cs (by omega)).trans (h.block k hk)⟩
end Go.Zone
namespace Go.Proofs.YtpkocnpamcchcaaGreatDoor
open Go.RowKit Go.Zone Go.Shelf
attribute [local go_sem] zone stepZ fill lookFs goes goesUpon dropFs cell_gro frozen_gro size_gro lt_add drew_gro tape_gro keep_refl
attribute [local go_sem] lt_add2 lt_add3 lt_add4 lt_add5 lt_add6 lt_add7 lt_add8 lt_add9 lt_add10 lt_add11 lt_add12
theorem info_val3:(Tryz.prog.info? 72).map (fun i=>(i.zero,i.size,i.bytes))=some (some (.agg #[.int .u8 0,.int .i64 0,.string ⟨#[]⟩]),3,32):=by kernel_rfl
theorem info_row:(Tryz.prog.info? 56).map (fun i=>(i.zero,i.size,i.bytes))=some (some (.slice none 0 0),1,24):=by kernel_rfl
theorem val_size:(Tryz.prog.info? 72).map (·.size)=some 3:=by kernel_rfl
theorem info_partsV{o:Option TypeInfo}{z:Value}{n m:Nat}(h:o.map (fun i=>(i.zero,i.size,i.bytes))=some (some z,n,m)):∃ i,o=some i∧i.zero=some z∧i.size=n∧i.bytes=m:=by
 cases o with
 | none=>cases h
 | some i =>
   simp only [Option.map_some,Option.some.injEq,Prod.mk.injEq] at h;exact ⟨i,rfl,h.1,h.2.1,h.2.2⟩
theorem made_vals(n base:Nat)(W:World)(hn:n≤1000000000)(hb:base≤W.heap.size) :
 ∃ W',(Instr.makeSlice 56 (.int .i64 (n:Int)) (.int .i64 (n:Int))).run Tryz.prog W=.ok (.slice (some ⟨W.heap.size,0,none⟩) n n) W'∧Row W' W.heap.size 72 ((List.replicate n zeroVal).flatMap Val.cells)∧Keep W W':=by
 obtain ⟨i,hi,h1,h2,h3⟩:=info_partsV info_val3;have hr:=run_make (P:=Tryz.prog) W 56 72 i _ Tryz.underlying56 hi h1 .i64 .i64 (n:Int) (n:Int) (by omega) (by omega) (by rw [h3];omega) (by omega);rw [Int.toNat_natCast,h2] at hr;refine ⟨_,hr,?_,Keep.alloc (Keep.refl _) _⟩;have e:(madeCells (Value.agg #[.int .u8 0,.int .i64 0,.string ⟨#[]⟩]).cells (n*3))=((List.replicate n zeroVal).flatMap Val.cells).toArray:=by
  apply Array.ext
  ·have e1:(madeCells (Value.agg #[.int .u8 0,.int .i64 0,.string ⟨#[]⟩]).cells (n*3)).size=n*3:=by simp [madeCells]
   have e2:((List.replicate n zeroVal).flatMap Val.cells).length=n*3:=by rw [flat_len val_len,List.length_replicate]
   exact e1.trans e2.symm
  ·intro i h1 h2;have hi:i<n*3:=by simpa [madeCells] using h1
   have hf:=flat_get (k:=3) (enc:=Val.cells) val_len (List.replicate n zeroVal) (i/3) (i%3) (by simp;omega);have hm:i/3*3+i%3=i:=by omega
   rw [hm] at hf;have hlt:i%3<3:=by omega
   simp only [madeCells,Array.getElem_map,Array.getElem_range,Value.cells,List.getElem_toArray]
   rcases (show i%3=0∨i%3=1∨i%3=2 by omega) with e|e|e
   all_goals
    have:=hf _ (by rw [e];simp [zeroVal,Val.cells];rfl);rw [List.getElem?_eq_some_iff] at this;obtain ⟨_,h⟩:=this;rw [h];simp [e]
 rw [e];exact row_alloc _ _ _
def NewRow(w:World)(base:Nat)(r:Rw):Prop:=∃ b,r.A=some ⟨b,0,none⟩∧base≤b∧Row w b 72 (r.vs.flatMap Val.cells)∧r.c=r.vs.length
theorem NewRow.keep{w w':World}{base:Nat}{r:Rw}(h:NewRow w base r)(hk:Keep w w'):NewRow w' base r:=by
 obtain ⟨b,h1,h2,h3,h4⟩:=h;exact ⟨b,h1,h2,h3.keep hk,h4⟩
theorem NewRow.sl{w:World}{base:Nat}{r:Rw}(h:NewRow w base r)(hl:r.vs.length≤140737488355328):Sl w 3 Val.cells r.A r.c r.vs:=by
 obtain ⟨b,h1,h2,h3,h4⟩:=h;rw [h1,h4];exact h3.sl_blk val_len hl (Nat.le_refl _) (by omega)
theorem NewRow.turn{w w':World}{base:Nat}{r:Rw}{S:List Nat}(h:NewRow w base r)(ht:Turn w w' S)(hs:∀ i∈S,i<w.heap.size→∀ vs,¬ Row w i 72 vs):NewRow w' base r:=by
 obtain ⟨b,h1,h2,h3,h4⟩:=h;exact ⟨b,h1,h2,ht.row h3 (fun hm=>hs b hm h3.lt _ h3),h4⟩
def zRw:Rw:=⟨none,0,[]⟩
abbrev OwnR(w:World)(base:Nat)(v:Value)(l:List Rw):Prop:=Own w base 56 1 Rw.cells v l
theorem tcopy_any(A:Option Addr)(c:Nat)(rows:List Rw)(w:World)(h:Sl w 1 Rw.cells A c rows)(hs:RowsAt w rows)(hl:rows.length≤1000000000)(hr:∀ r∈rows,r.vs.length≤1000000000) :
 Calls Tryz.prog 60 #[.slice A rows.length c] w fun e w'=>∃ g,e=.returned (.slice (some ⟨g,0,none⟩) rows.length rows.length)∧∃ L,OwnR w' w.heap.size (.slice (some ⟨g,0,none⟩) rows.length rows.length) L∧(∀ r∈L,NewRow w' w.heap.size r)∧L.map (·.vs)=rows.map (·.vs)∧Keep w w':=by
 have H:=lh h;have HS:=lh hs;have HR:=lh hr;generalize hn:rows.length=n at hl;have HN:=lh hn;obtain ⟨i0,hi0,i1,i2,i3⟩:=info_partsV info_row;obtain ⟨W',hmk,ho,hk⟩:=own_made1 (P:=Tryz.prog) (z:=zRw) rw_f rfl Tryz.underlying27 hi0 i1 i2 n w.heap.size w (by rw [i3];omega) (by omega) (Nat.le_refl _);have HO:=lh ho;have HK:=lh hk;clear h hs hr ho hk i0 hi0 i1 i2 i3 hn;generalize hg:w.heap.size=g at HO hmk;have HG:=lh hg;clear hg;go_enter Tryz.func60,Tryz.ntmps60;go_wp2;clear hmk;go_loopw [10] (fun i wr=>∃ (k:Nat) (L:List Rw),k≤n∧i=.int .i64 k∧Hid (L.length=k)∧Hid (L.map (·.vs)=(rows.take k).map (·.vs))∧Hid (OwnR wr g (.slice (some ⟨g,0,none⟩) n n) (L++List.replicate (n-k) zRw))∧Hid (∀ r∈L,NewRow wr g r)∧Hid (Keep w wr)) (fun i _=>n-(intOf i).toNat)
 case atStart=>exact ⟨0,[],Nat.zero_le _,rfl,rfl,rfl,HO.out,(fun _ h=>by cases h),HK.out⟩
 case round =>
  clear HO HK;obtain ⟨k,L,hk,rfl,HLL,HLM,HO,HNW,HK⟩:=hrel
  by_cases hlt:k<n
  ·have hlt2:k<rows.length:=by rw [HN.out];exact hlt
   obtain ⟨b,off,hA,hb,h00⟩:=sl_rw H.out k hlt2;have h0:=(HK.out.cell (p:=⟨b,off+k,none⟩) hb).trans h00;have hbr:=Nat.lt_of_lt_of_le hb HK.out.size;have HSR:=lh (HS.out rows[k] (List.getElem_mem hlt2));have hrl:=HR.out rows[k] (List.getElem_mem hlt2);have HTK:=lh (show (rows.take (k+1)).map (·.vs)=(rows.take k).map (·.vs)++[rows[k].vs] by rw [List.take_succ_eq_append_getElem hlt2,List.map_append];rfl);subst hA;generalize rows[k]=r at h0 h00 HSR hrl HTK;obtain ⟨rA,rc,vs⟩:=r;simp only at h0 h00 HSR hrl HTK;obtain ⟨W2,hmk,hrow,hk2⟩:=made_vals vs.length w.heap.size wr hrl HK.out.size;have hg2:g≤wr.heap.size:=by have:=HK.out.size;have:=HG.out;omega
   generalize hgq:wr.heap.size=g2 at hmk hrow hg2;have HGQ:=lh hgq;clear hgq;have HK2:=lh hk2;have HRW:=lh hrow;have hlen:(L++List.replicate (n-k) zRw).length=n:=by have:=HLL.out;simp;omega
   have ho2:=HO.out.keep hk2;have hset:(L++List.replicate (n-k) zRw).set k ⟨some ⟨g2,0,none⟩,vs.length,vs⟩=(L++[⟨some ⟨g2,0,none⟩,vs.length,vs⟩])++List.replicate (n-(k+1)) zRw:=by
    have h1:=HLL.out;rw [List.set_append_right _ _ (by omega),h1,Nat.sub_self,show n-k=(n-(k+1))+1 by omega,List.replicate_succ,List.set_cons_zero,List.append_assoc];rfl
   obtain ⟨c0,c1,c2,c3⟩:=ho2.cell1 rw_f hlen.symm k (by omega);have ho3:=ho2.set1 rw_f hlen.symm k ⟨some ⟨g2,0,none⟩,vs.length,vs⟩ rfl;rw [hset] at ho3;generalize (L++List.replicate (n-k) zRw)[k]'(by rw [hlen];exact hlt)=y at c0;obtain ⟨yA,yc,yv⟩:=y;simp only at c0;have hne:g2≠g:=fun e=>own_row_ne ho2 hrow (by decide) (by rw [e];rfl);have HO3:=lh ho3;have HNE:=lh hne;have HG2:=lh hg2;clear ho2 ho3 hset hrow hk2 hne;go_upto_region 6 with fail;have hw:Hid (Turn W2 (W2.setCell ⟨g,k,none⟩ (.slice (some ⟨g2,0,none⟩) vs.length vs.length)) [g]):=Turn.set _ _ _;generalize W2.setCell ⟨g,k,none⟩ (.slice (some ⟨g2,0,none⟩) vs.length vs.length)=w3 at HO3 hw ⊢;have HR3:=lh (hw.out.row HRW.out (fun e=>HNE.out (by simpa using e)));have HK3:=lh (show Keep w w3 from Turn.after (HK.out.trans HK2.out) hw.out (fun i hi=>by simp only [List.mem_singleton] at hi;rw [hi];exact Nat.le_of_eq HG.out));have hlen3:((L++[(⟨some ⟨g2,0,none⟩,vs.length,vs⟩:Rw)])++List.replicate (n-(k+1)) zRw).length=n:=by have:=HLL.out;simp;omega
   obtain ⟨d0,d1,d2,d3⟩:=HO3.out.cell1 rw_f hlen3.symm k (by omega);have he:((L++[(⟨some ⟨g2,0,none⟩,vs.length,vs⟩:Rw)])++List.replicate (n-(k+1)) zRw)[k]'(by omega)=⟨some ⟨g2,0,none⟩,vs.length,vs⟩:=by
    rw [List.getElem_append_left (by have:=HLL.out;simp;omega),List.getElem_append_right (by have:=HLL.out;omega)];simp
   rw [he] at d0;simp only at d0;have h03:=(HK3.out.cell (p:=⟨b,off+k,none⟩) hb).trans h00;have hb3:=Nat.lt_of_lt_of_le hb HK3.out.size;have hz3:=HR3.out.lt;clear h0 hbr c0 c1 c2 c3 hlen hlen3 he hmk
   go_region_law (refine step_copy_k rfl (.tmp 25) (.tmp 29) 56 56 72 rfl Tryz.underlying56 val_size val_len val_one rfl rfl rfl (HSR.out.keep (HK3.out.trans (by repeat first|exact kp0|apply kp1|apply kp2|apply kp3|apply kp4))) (HR3.out.keep (by repeat first|exact kp0|apply kp1|apply kp2|apply kp3|apply kp4)) (by rw [flat_len val_len,List.length_replicate]) ?_
                  intro w4 hr4 ht4;have HR4:=lh hr4;have HT4:=lh (Turn.trans (Turn.keep (show Keep w3 _ from (by repeat first|exact kp0|apply kp1|apply kp2|apply kp3|apply kp4)) [g2]) ht4);clear hr4 ht4)
   all_goals
    go_wp2;go_roundw
    case rel =>
     have hg2s:∀ i∈[g2],g≤i:=fun i hi=>by simp only [List.mem_singleton] at hi;rw [hi];exact HG2.out
     refine ⟨k+1,L++[⟨some ⟨g2,0,none⟩,vs.length,vs⟩],by omega,by go_num,?_,?_,?_,?_,?_⟩
     ·show _=_;rw [List.length_append,HLL.out];rfl
     ·show _=_;rw [HTK.out,List.map_append,HLM.out];rfl
     ·exact Own.turn HO3.out HT4.out fun i hi e=>by
       simp only [List.mem_singleton] at hi;subst hi;exact HNE.out (by simpa [Value.ownBlock] using e.symm)
     ·intro r hr;rw [List.mem_append,List.mem_singleton] at hr
      rcases hr with hr|rfl
      ·obtain ⟨bb,e1,e2,hrb,e4⟩:=HNW.out r hr;have hbg:bb≠g:=fun e=>own_row_ne HO.out hrb (by decide) (by rw [e];rfl);have hbg2:bb≠g2:=fun e=>by have:=hrb.lt;have:=HGQ.out;omega
       exact ⟨bb,e1,e2,HT4.out.row (hw.out.row (hrb.keep HK2.out) (by simpa using hbg)) (by simpa using hbg2),e4⟩
      ·exact ⟨g2,rfl,HG2.out,HR4.out,rfl⟩
     ·exact Turn.after HK3.out HT4.out (fun i hi=>by rw [HG.out];exact hg2s i hi)
    case measure=>simp [intOf];omega
  ·have hkl:k=n:=by omega
   subst hkl;rw [Nat.sub_self,List.replicate_zero,List.append_nil] at HO;go_wp2;exact bodyPost_ret (v:=.slice (some ⟨g,0,none⟩) k k) (by simp [results,Tryz.results60,go_sem]) rfl ⟨g,rfl,L,HO.out,HNW.out,by rw [HLM.out,← HN.out,List.take_length],HK.out⟩
end Go.Proofs.YtpkocnpamcchcaaGreatDoor
namespace Go.Proofs.YtpkocnpamcchcaaGreatDoor
open Go.RowKit Go.Zone Go.Shelf
attribute [local go_sem] zone stepZ fill lookFs goes goesUpon dropFs cell_gro frozen_gro size_gro lt_add drew_gro tape_gro keep_refl
attribute [local go_sem] lt_add2 lt_add3 lt_add4 lt_add5 lt_add6 lt_add7 lt_add8 lt_add9 lt_add10 lt_add11 lt_add12
theorem flat_set3:∀ (xs:List Val) (i:Nat) (x:Val),i<xs.length→(((xs.flatMap Val.cells).set (i*3) (.int .u8 x.k)).set (i*3+1) (.int .i64 x.n)).set (i*3+2) (.string x.s)=(xs.set i x).flatMap Val.cells
 | y :: r,0,x,_=>by
   simp only [List.flatMap_cons,Val.cells,List.set_cons_zero,List.cons_append,List.nil_append,Nat.zero_mul,Nat.zero_add,List.set_cons_succ]
 | y :: r,i+1,x,h=>by
   have:=flat_set3 r i x (by simpa using h);simp only [List.flatMap_cons,List.set_cons_succ];rw [← this];have e:(i+1)*3=i*3+1+1+1:=by omega
   simp only [Val.cells,e,List.cons_append,List.nil_append,List.set_cons_succ]
theorem row_set3{w:World}{g:Nat}{xs:List Val}(h:Row w g 72 (xs.flatMap Val.cells))(i:Nat)(hi:i<xs.length)(x:Val) :
 Row (((w.setCell ⟨g,i*3,none⟩ (.int .u8 x.k)).setCell ⟨g,i*3+1,none⟩ (.int .i64 x.n)).setCell ⟨g,i*3+2,none⟩ (.string x.s)) g 72 ((xs.set i x).flatMap Val.cells):=by
 rw [← flat_set3 xs i x hi];exact ((Row.set h _ _).set _ _).set _ _
def colV(rows:List (List Val))(p:Nat):List Val:=rows.map fun r=>r.getD p zeroVal
theorem tcol_any(A:Option Addr)(c p:Nat)(rows:List Rw)(w:World)(h:Sl w 1 Rw.cells A c rows)(hs:RowsAt w rows)(hl:rows.length≤1000000000) :
 Calls Tryz.prog 66 #[.slice A rows.length c,.int .i64 p] w fun e w'=>∃ g,e=.returned (.slice (some ⟨g,0,none⟩) rows.length rows.length)∧Row w' g 72 ((colV (rows.map (·.vs)) p).flatMap Val.cells)∧w.heap.size≤g∧Keep w w':=by
 have H:=lh h;have HS:=lh hs;generalize hn:rows.length=n at hl;have HN:=lh hn;obtain ⟨W',hmk,hrow,hk⟩:=made_vals n w.heap.size w hl (Nat.le_refl _);have HO:=lh hrow;have HK:=lh hk;clear h hs hrow hk hn;generalize hg:w.heap.size=g at HO hmk;have HG:=lh hg;clear hg;go_enter Tryz.func66,Tryz.ntmps66;go_wp2;clear hmk;go_loopw [13] (fun i wr=>∃ k:Nat,k≤n∧i=.int .i64 k∧Hid (Row wr g 72 ((colV ((rows.take k).map (·.vs)) p++List.replicate (n-k) zeroVal).flatMap Val.cells))∧Hid (Keep w wr)) (fun i _=>n-(intOf i).toNat)
 case atStart=>exact ⟨0,Nat.zero_le _,rfl,HO.out,HK.out⟩
 case round =>
  clear HO HK;obtain ⟨k,hk,rfl,HO,HK⟩:=hrel
  by_cases hlt:k<n
  ·have hlt2:k<rows.length:=by rw [HN.out];exact hlt
   obtain ⟨b,off,hA,hb,h0⟩:=sl_rw (H.out.keep HK.out) k hlt2;have HSR:=lh ((HS.out rows[k] (List.getElem_mem hlt2)).keep HK.out);have HTK:=lh (show colV ((rows.take (k+1)).map (·.vs)) p=colV ((rows.take k).map (·.vs)) p++[rows[k].vs.getD p zeroVal] by rw [List.take_succ_eq_append_getElem hlt2,List.map_append];simp [colV]);have hcl:(colV ((rows.take k).map (·.vs)) p).length=k:=by simp [colV];omega
   subst hA;generalize rows[k]=r at h0 HSR HTK;obtain ⟨rA,rc,vs⟩:=r;simp only at h0 HSR HTK;generalize colV ((rows.take k).map (·.vs)) p=L at HO HTK hcl;have HCL:=lh hcl;have hlen:(L++List.replicate (n-k) zeroVal).length=n:=by simp;omega
   have hbl:=HO.out.lt;have hso:=HO.out.soft
   by_cases hp:p<vs.length
   ·obtain ⟨b2,off2,hA2,hb2,c0,c1,c2⟩:=sl_val HSR.out p hp;have HVP:=lh (show vs.getD p zeroVal=vs[p] by simp [hp]);have hset:(L++List.replicate (n-k) zeroVal).set k vs[p]=(L++[vs[p]])++List.replicate (n-(k+1)) zeroVal:=by
     rw [List.set_append_right _ _ (by omega),hcl,Nat.sub_self,show n-k=(n-(k+1))+1 by omega,List.replicate_succ,List.set_cons_zero,List.append_assoc];rfl
    subst hA2;have HO2:=row_set3 HO.out k (by omega) vs[p];rw [hset] at HO2;generalize vs[p]=x at c0 c1 c2 HVP HO2;obtain ⟨xk,xn,xs⟩:=x;simp only at c0 c1 c2 HO2;have HO3:=lh HO2;have q0:=hso (k*3);have q1:=hso (k*3+1);have q2:=hso (k*3+2);obtain ⟨y0,d0⟩:∃ y,wr.cell? ⟨g,k*3,none⟩=some y:=⟨_,HO.out.cell (k*3) _ (List.getElem?_eq_getElem (by rw [flat_len val_len];omega))⟩;obtain ⟨y1,d1⟩:∃ y,wr.cell? ⟨g,k*3+1,none⟩=some y:=⟨_,HO.out.cell (k*3+1) _ (List.getElem?_eq_getElem (by rw [flat_len val_len];omega))⟩;obtain ⟨y2,d2⟩:∃ y,wr.cell? ⟨g,k*3+2,none⟩=some y:=⟨_,HO.out.cell (k*3+2) _ (List.getElem?_eq_getElem (by rw [flat_len val_len];omega))⟩;have hp2:(p:Int)<(vs.length:Int):=by omega
    clear HO2 hset hlen hso hcl;go_wp2;go_roundw
    case rel =>
     have hgg:w.heap.size≤g:=Nat.le_of_eq HG.out;exact ⟨k+1,by omega,by go_num,(by show Row _ _ _ _;rw [HTK.out,HVP.out];exact HO3.out),((HK.out.setCell hgg _).setCell hgg _).setCell hgg _⟩
    case measure=>simp [intOf];omega
   ·have hp2:¬ (p:Int)<(vs.length:Int):=by omega
    have hd:decide ((p:Int)<(vs.length:Int))=false:=decide_eq_false hp2;have HVP:=lh (show vs.getD p zeroVal=zeroVal by simp [Nat.le_of_not_lt hp]);have HSE:=lh (show L++List.replicate (n-k) zeroVal=(L++[zeroVal])++List.replicate (n-(k+1)) zeroVal by
     rw [show n-k=(n-(k+1))+1 by omega,List.replicate_succ,List.append_assoc];rfl)
    clear hlen hso hcl hbl;go_wp2;go_roundw
    case rel =>
     exact ⟨k+1,by omega,by go_num,(by show Row _ _ _ _;rw [HTK.out,HVP.out,← HSE.out];exact HO.out),HK.out⟩
    case measure=>simp [intOf];omega
  ·have hkl:k=n:=by omega
   subst hkl;rw [Nat.sub_self,List.replicate_zero,List.append_nil,← HN.out,List.take_length] at HO;go_wp2;exact bodyPost_ret (v:=.slice (some ⟨g,0,none⟩) k k) (by simp [results,Tryz.results66,go_sem]) rfl ⟨g,rfl,HO.out,Nat.le_refl _,HK.out⟩
theorem tsort_plain(A B:Option Addr)(n m:Nat)(cs:List Col)(c:Cfg)(rows:List Rw)(w:World)(h:Sl w 2 Col.cells A n cs)(hz:∀ x∈cs,x.name.size≤140737488355328)(hc:CfgAt w c)(hf:Fits cs c)(hs:c.sort= -1)
 (hr:Sl w 1 Rw.cells B m rows) (hra:RowsAt w rows) (hl:rows.length≤1000000000) (hrl:∀ r∈rows,r.vs.length≤1000000000) (he:tErr cs (rows.map (·.vs))=0) :
 Calls Tryz.prog 28 #[.slice A cs.length n,c.v,.slice B rows.length m] w fun e w'=>∃ g,e=.returned (.tuple #[.slice (some ⟨g,0,none⟩) rows.length rows.length,.int .i64 0])∧∃ L,OwnR w' w.heap.size (.slice (some ⟨g,0,none⟩) rows.length rows.length) L∧(∀ r∈L,NewRow w' w.heap.size r)∧L.map (·.vs)=rows.map (·.vs)∧Keep w w':=by
 have HF:=lh (fun W (hW:Keep w W)=>fits_any A n cs c W (h.keep hW) hz (hc.keep hW));have HM:=lh (fun W (hW:Keep w W)=>tmay_any A B n m cs rows W (h.keep hW) hz (hr.keep hW) (hra.keep hW));have HC:=lh (fun W (hW:Keep w W)=>tcopy_any B m rows W (hr.keep hW) (hra.keep hW) hl hrl);have hq:=pB_yes hf;rw [he] at HM;obtain ⟨s0,iA,ic,iv,rA,rc,rv,sA,sc,sp,lf⟩:=c;simp only at hs;subst hs;simp only [Cfg.v];clear h hc hf hr hra hrl he;go_enter Tryz.func28,Tryz.ntmps28;go_upto_region 1 with fail;have hB:BoxA w (w.alloc (.cells #[.int .i64 (-1),.slice iA iv.length ic,.slice rA rv.length rc,.slice sA sp.length sc,.int .i64 lf] 26)) [.int .i64 (-1),.slice iA iv.length ic,.slice rA rv.length rc,.slice sA sp.length sc,.int .i64 lf]:=BoxA.start (t:=26) (Keep.refl _);generalize hwb:World.alloc w _=wb at hB ⊢;have hbs:=hB.lt;have x0:=hB.at_ 0 _ rfl;have x1:=hB.at_ 1 _ rfl;have x2:=hB.at_ 2 _ rfl;have x3:=hB.at_ 3 _ rfl;have x4:=hB.at_ 4 _ rfl;have HKB:=lh hB.keep;have HX0:=lh x0;clear hwb hB;generalize w.heap.size=g0 at hbs x0 x1 x2 x3 x4 HX0;go_wp2_with (go_at_call 55;refine hold ?_);refine unhold ?_;refine (HF.out _ HKB.out).mono ?_;rintro e w0 ⟨rfl,hk0⟩;have HK0:=lh hk0;clear x0 x1 x2 x3 x4 HF hk0;go_wp2_with (go_at_call 59;refine hold ?_);refine unhold ?_;refine (HM.out _ (HKB.out.trans HK0.out)).mono ?_;rintro e w1 ⟨rfl,hk1⟩;have HK1:=lh (HK0.out.trans hk1);clear hk1;go_wp2_with (go_at_call 60;refine hold ?_);refine unhold ?_;refine (HC.out _ (HKB.out.trans HK1.out)).mono ?_
 rintro e w2 ⟨g,rfl,L,hown,hnew,hvs,hk2⟩;have HK2:=lh (HK1.out.trans hk2);have HZ:=lh (HKB.out.trans HK1.out).size;have HOW:=lh hown;have HNW:=lh hnew;have HVS:=lh hvs;have y0:=box_cell HK2.out hbs HX0.out;have hgw:g0<w2.heap.size:=block_lt_of_cell y0;clear hk2 hown hnew hvs;go_wp2;exact bodyPost_ret (v:=.tuple #[.slice (some ⟨g,0,none⟩) rows.length rows.length,.int .i64 0]) (by simp [results,Tryz.results28,go_sem]) rfl ⟨g,rfl,L,HOW.out.base_mono HZ.out,fun r hr=>by
  obtain ⟨b,h1,h2,h3,h4⟩:=HNW.out r hr;exact ⟨b,h1,Nat.le_trans HZ.out h2,h3,h4⟩,HVS.out,HKB.out.trans HK2.out⟩
end Go.Proofs.YtpkocnpamcchcaaGreatDoor
