/- Parts of the proof. -/
import Derived.Shelf.Strconv.Itoa0
import Derived.Ground.NamesProg
import Derived.Lib.AppendStr
import Derived.Deep.RegionLaw
import Derived.Lib.BitFns
import Derived.Laws.BitsAllLaws
import Derived.Test.YtpkocnpamcchcaaGreatDoorK06
set_option maxRecDepth 100000
set_option maxHeartbeats 4000000
set_option linter.unusedSimpArgs false
set_option linter.unusedVariables false
set_option linter.unnecessarySimpa false
namespace Go.Proofs.YtpkocnpamcchcaaGreatDoor
open Go.RowKit Go.Zone Go.Shelf Go.Sort
def LeV(x y:Val):Prop:=¬ LtV y x
theorem sortV_sorted(xs:List Val):(sortV xs).Pairwise LeV:=by
 have h:=List.pairwise_mergeSort (le:=fun x y=>!(ltOf cmpV) y x) (fun a b c h1 h2=>by
  simp only [Bool.not_eq_true'] at *;exact swoV.ntrans c b a h2 h1) (fun a b=>by
  cases h1:ltOf cmpV b a
  ·rfl
  ·cases h2:ltOf cmpV a b
   ·simp
   ·exact absurd (swoV.trans a b a h2 h1) (by rw [swoV.irrefl];simp)) xs
 refine h.imp fun {a b} hab=>?_;simp only [Bool.not_eq_true',ltOf,decide_eq_false_iff_not,cmpV_lt] at hab;exact hab
theorem sortV_mem(xs:List Val)(x:Val):x∈sortV xs↔x∈xs:=List.mem_mergeSort
theorem ddTo_sorted(xs:List Val)(h:xs.Pairwise LeV):∀ m,m≤xs.length→(ddTo xs m).Pairwise LtV∧(∀ x,x∈ddTo xs m↔x∈xs.take m)
 | 0,_=>⟨by simp [ddTo],fun x=>by simp [ddTo]⟩
 | m+1,hm=>by
   have ih:=ddTo_sorted xs h m (by omega);have hml:m<xs.length:=by omega
   have hg:xs.getD m default=xs[m]:=by simp [hml]
   have hmem:∀ x,x∈xs.take (m+1)↔x∈xs.take m∨x=xs[m]:=fun x=>by
    rw [List.take_succ_eq_append_getElem hml,List.mem_append,List.mem_singleton]
   unfold ddTo;rw [hg]
   split
   ·rename_i hc;refine ⟨?_,fun x=>by rw [List.mem_append,ih.2 x,List.mem_singleton,hmem x]⟩;rw [List.pairwise_append];refine ⟨ih.1,List.pairwise_singleton _ _,fun x hx y hy=>?_⟩;rw [List.mem_singleton] at hy;subst hy;rw [ih.2 x] at hx;obtain ⟨i,hi,rfl⟩:=List.getElem_of_mem hx;have him:i<m:=by simp at hi;omega
    rw [List.getElem_take]
    rcases hc with hc|hc
    ·omega
    ·have hm1:xs.getD (m-1) default=xs[m-1]:=by simp [show m-1<xs.length by omega]
     rw [hm1] at hc;have hne:xs[m]≠xs[m-1]:=fun e=>by rw [(eqV_iff _ _).2 e] at hc;cases hc
     have hle:=List.pairwise_iff_getElem.1 h;have h1:LtV xs[m-1] xs[m]:=by
      rcases LtV.tri xs[m-1] xs[m] with t|t|t
      ·exact t
      ·exact absurd t.symm hne
      ·exact absurd t (hle (m-1) m (by omega) hml (by omega))
     rcases Nat.lt_or_ge i (m-1) with h2|h2
     ·have h3:=hle i (m-1) (by omega) (by omega) h2
      rcases LtV.tri xs[i] xs[m-1] with t|t|t
      ·exact t.trans h1
      ·rw [t];exact h1
      ·exact absurd t h3
     ·have:i=m-1:=by omega
      subst this;exact h1
   ·rename_i hc;have hc':m≠0∧eqV xs[m] (xs.getD (m-1) default)=true:=by
     constructor
     ·intro e;exact hc (.inl e)
     ·cases he:eqV xs[m] (xs.getD (m-1) default)
      ·exact absurd (.inr he) hc
      ·rfl
    refine ⟨ih.1,fun x=>?_⟩;rw [ih.2 x,hmem x];constructor
    ·exact .inl
    ·rintro (hx|rfl)
     ·exact hx
     ·have e:=(eqV_iff _ _).1 hc'.2;rw [e,List.getD_eq_getElem?_getD,List.getElem?_eq_getElem (by omega),Option.getD_some];exact List.mem_take_iff_getElem.2 ⟨m-1,by omega,rfl⟩
theorem dOwn_sorted(xs:List Val):(dOwn xs).Pairwise LtV∧∀ x,x∈dOwn xs↔x∈xs:=by
 have h:=ddTo_sorted (sortV xs) (sortV_sorted xs) (sortV xs).length (Nat.le_refl _);refine ⟨h.1,fun x=>?_⟩;have:=h.2 x;rw [List.take_length,sortV_mem] at this;exact this
theorem takeWhile_all{α:Type}(p:α→Bool):∀ (l:List α) (i:Nat) (h:i<(l.takeWhile p).length),(hl:i<l.length)→p l[i]=true
 | [],i,h,_=>by simp at h
 | x :: r,i,h,hl=>by
   rw [List.takeWhile_cons] at h
   split at h
   ·rename_i hx
    cases i with
    | zero=>exact hx
    | succ i=>exact takeWhile_all p r i (by simpa using h) (by simpa using hl)
   ·simp at h
theorem takeWhile_end{α:Type}(p:α→Bool):∀ (l:List α) (h:(l.takeWhile p).length<l.length),p l[(l.takeWhile p).length]=false
 | [],h=>by simp at h
 | x :: r,h=>by
   by_cases hx:p x=true
   ·have:=takeWhile_end p r (by rw [List.takeWhile_cons,if_pos hx] at h;simpa using h);simp only [List.takeWhile_cons,hx,if_true,List.length_cons,List.getElem_cons_succ];exact this
   ·simp only [List.takeWhile_cons,hx,if_false,List.length_nil,List.getElem_cons_zero]
    simpa using hx
theorem lower_lt(xs:List Val)(v:Val)(i:Nat)(h:i<lower xs v)(hl:i<xs.length):LtV xs[i] v:=by
 have:=takeWhile_all _ xs i h hl
 simpa [cmpV_lt] using this
theorem lower_end(xs:List Val)(v:Val)(h:lower xs v<xs.length):¬ LtV xs[lower xs v] v:=by
 intro hlt;rw [← cmpV_lt] at hlt;have h2:decide (cmpV xs[lower xs v] v<0)=false:=takeWhile_end _ xs h;simp only [decide_eq_false_iff_not] at h2;exact h2 hlt
theorem hits_iff(xs:List Val)(v:Val):hits xs v=true↔∃ h:lower xs v<xs.length,xs[lower xs v]=v:=by
 unfold hits
 rcases Nat.lt_or_ge (lower xs v) xs.length with h|h
 ·rw [List.getElem?_eq_getElem h];simp only [beq_iff_eq,cmpV_eq];exact ⟨fun e=>⟨h,e⟩,fun ⟨_,e⟩=>e⟩
 ·rw [List.getElem?_eq_none h];simp only [Bool.false_eq_true,false_iff];rintro ⟨h',_⟩;omega
section
variable {xs:List Val} {v:Val} (hs:xs.Pairwise LtV)
include hs
theorem at_hit(i:Nat)(hi:i<xs.length):xs[i]=v↔hits xs v=true∧i=lower xs v:=by
 constructor
 ·intro e;have hle:lower xs v≤i:=by
   rcases Nat.lt_or_ge i (lower xs v) with h|h
   ·have:=lower_lt xs v i h hi;rw [e] at this;exact absurd this (LtV.irrefl v)
   ·exact h
  have hlt:lower xs v<xs.length:=by omega
  have heq:i=lower xs v:=by
   rcases Nat.lt_or_ge (lower xs v) i with h|h
   ·have h1:=List.pairwise_iff_getElem.1 hs _ i hlt hi h;rw [e] at h1;exact absurd h1 (lower_end xs v hlt)
   ·omega
  exact ⟨(hits_iff xs v).2 ⟨hlt,by subst heq;exact e⟩,heq⟩
 ·rintro ⟨h,rfl⟩;exact ((hits_iff xs v).1 h).2
end
end Go.Proofs.YtpkocnpamcchcaaGreatDoor
namespace Go.Proofs
open Go.Shelf
def Tryz.lenL_ren:Go.Shelf.Ren:=⟨fun|129=>163|n=>n,fun|53=>47|3=>3|4=>4|46=>162|5=>5|9=>9|n=>n,fun|n=>n⟩
theorem Tryz.lenL:Go.Proofs.Lays.n129 Tryz.prog Tryz.lenL_ren:={
 mixed:=by kernel_rfl
 f129:=Tryz.func163.trans (congrArg some (by kernel_rfl))
 t3:=Tryz.underlying3
 a3:=Tryz.isAgg3
 z3:=Tryz.sizeOf3
 v3:=Tryz.zeroValue3
 t4:=Tryz.underlying4
 a4:=Tryz.isAgg4
 z4:=Tryz.sizeOf4
 v4:=Tryz.zeroValue4
 t5:=Tryz.underlying5
 a5:=Tryz.isAgg5
 z5:=Tryz.sizeOf5
 v5:=Tryz.zeroValue5
 t9:=Tryz.underlying9
 a9:=Tryz.isAgg9
 z9:=Tryz.sizeOf9
 v9:=Tryz.zeroValue9
 t46:=Tryz.underlying162
 a46:=Tryz.isAgg162
 z46:=Tryz.sizeOf162
 v46:=Tryz.zeroValue162
 t53:=Tryz.underlying47
 a53:=Tryz.isAgg47
 z53:=Tryz.sizeOf47
 v53:=Tryz.zeroValue47 }
end Go.Proofs
namespace Go.Proofs.YtpkocnpamcchcaaGreatDoor
def numL(w:Nat):List Nat→Nat
 | []=>0
 | x :: r=>x+2^w*numL w r
def packB(l:List Nat)(w:Nat):List UInt8:=le (numL w l) ((l.length*w+7)/8)
theorem numL_lt{w:Nat}:∀ (l:List Nat),(∀ x∈l,x<2^w)→numL w l<2^(l.length*w)
 | [],_=>by simp [numL]
 | x :: r,h=>by
   have h1:=numL_lt r fun y hy=>h y (by simp [hy]);have h2:=h x (by simp);have h3:2^((x :: r).length*w)=2^w*2^(r.length*w):=by rw [← Nat.pow_add];congr 1;simp [Nat.add_mul,Nat.add_comm]
   rw [h3];simp only [numL];have h4:2^w*(numL w r+1)≤2^w*2^(r.length*w):=Nat.mul_le_mul_left _ h1;rw [Nat.mul_add] at h4;omega
theorem numL_get{w:Nat}:∀ (l:List Nat) (i:Nat) (h:i<l.length),(∀ x∈l,x<2^w)→numL w l/2^(i*w)%2^w=l[i]
 | x :: r,0,_,h=>by
   have:=h x (by simp);simp only [numL,Nat.zero_mul,Nat.pow_zero,Nat.div_one,Nat.add_mul_mod_self_left,List.getElem_cons_zero];exact Nat.mod_eq_of_lt this
 | x :: r,i+1,hi,h=>by
   have hx:=h x (by simp);have h1:=numL_get r i (by simpa using hi) fun y hy=>h y (by simp [hy]);have h2:(i+1)*w=w+i*w:=by rw [Nat.add_mul,Nat.one_mul,Nat.add_comm]
   rw [h2,Nat.pow_add,← Nat.div_div_eq_div_mul];simp only [numL,List.getElem_cons_succ];rw [Nat.add_mul_div_left _ _ (Nat.two_pow_pos w),Nat.div_eq_of_lt hx,Nat.zero_add];exact h1
theorem numL_bit{w:Nat}(l:List Nat)(i k:Nat)(h:i<l.length)(hl:∀ x∈l,x<2^w)(hk:k<w):numL w l/2^(i*w+k)%2=l[i]/2^k%2:=by
 rw [← numL_get l i h hl,Nat.pow_add,← Nat.div_div_eq_div_mul];generalize numL w l/2^(i*w)=y;have h1:2^w=2^k*(2*2^(w-k-1)):=by
  rw [← Nat.pow_succ',← Nat.pow_add]
  congr 1
  omega
 rw [h1,Nat.mod_mul_right_div_self,Nat.mod_mul_right_mod]
theorem le_get:∀ (n k j:Nat) (h:j<(le n k).length),(le n k)[j]=UInt8.ofNat (n/256^j%256)
 | n,0,j,h=>absurd h (Nat.not_lt_zero _)
 | n,k+1,j,h=>by
   have hk:(le n k).length=k:=le_len n k;have hj:j<k+1:=by rwa [le_len] at h
   have e:(le n (k+1))[j]=(le n k++[UInt8.ofNat (n/256^k)])[j]'(by rw [List.length_append,hk];simpa using hj):=rfl;rw [e]
   rcases Nat.lt_or_ge j k with h1|h1
   ·rw [List.getElem_append_left (by omega)];exact le_get n k j (by omega)
   ·have:j=k:=by omega
    subst this;rw [List.getElem_append_right (by omega)];simp only [hk,Nat.sub_self,List.getElem_cons_zero];apply UInt8.toNat_inj.1;simp
theorem pow8(j:Nat):256^j=2^(8*j):=by rw [show 256=2^8 from rfl,← Nat.pow_mul]
theorem bit_more(N q:Nat):N%2^(q+1)=N%2^q+N/2^q%2*2^q:=by
 rw [Nat.pow_succ,Nat.mod_mul,Nat.mul_comm (2^q)]
theorem byte_low{M q j:Nat}(hM:M<2^q)(h:8*j≤q)(h8:q<8*j+8):M/256^j%256=M/256^j∧M/256^j<2^(q-8*j):=by
 rw [pow8];have h1:M/2^(8*j)<2^(q-8*j):=by
  rw [Nat.div_lt_iff_lt_mul (Nat.two_pow_pos _),← Nat.pow_add]
  rwa [show q-8*j+8*j=q by omega]
 have h2:2^(q-8*j)≤2^7:=Nat.pow_le_pow_right (by decide) (by omega);exact ⟨Nat.mod_eq_of_lt (by omega),h1⟩
theorem or_bit{a b t:Nat}(ha:a<2^t):a ||| b*2^t=a+b*2^t:=by
 rw [Nat.or_comm,← Nat.shiftLeft_eq,← Nat.shiftLeft_add_eq_or_of_lt ha,Nat.add_comm]
theorem byte_more(N q:Nat):N%2^(q+1)/256^(q/8)%256=(N%2^q/256^(q/8)%256) ||| (N/2^q%2*2^(q%8)):=by
 have hM:N%2^q<2^q:=Nat.mod_lt _ (Nat.two_pow_pos _);obtain ⟨h1,h2⟩:=byte_low (j:=q/8) hM (by omega) (by omega);have e:q-8*(q/8)=q%8:=by omega
 rw [e] at h2;rw [h1,or_bit h2,bit_more];have h3:2^q=256^(q/8)*2^(q%8):=by rw [pow8,← Nat.pow_add];congr 1;omega
 have h4:N/2^q%2*2^q=256^(q/8)*(N/2^q%2*2^(q%8)):=by
  rw [h3];generalize N/(256^(q/8)*2^(q%8))%2=b;rw [Nat.mul_left_comm]
 rw [h4,Nat.add_mul_div_left _ _ (Nat.pow_pos (by decide))];apply Nat.mod_eq_of_lt;have h5:N/2^q%2≤1:=by omega
 have h6:2^(q%8)≤2^7:=Nat.pow_le_pow_right (by decide) (by omega);have h7:N/2^q%2*2^(q%8)≤1*2^(q%8):=Nat.mul_le_mul_right _ h5;omega
theorem byte_else(N q j:Nat)(h:j≠q/8):N%2^(q+1)/256^j%256=N%2^q/256^j%256:=by
 rw [pow8]
 rcases Nat.lt_or_ge j (q/8) with hj|hj
 ·have e:∀ q',8*j+8≤q'→N%2^q'/2^(8*j)%256=N/2^(8*j)%256:=fun q' hq=>by
   obtain ⟨d,rfl⟩:∃ d,q'=8*j+(8+d):=⟨q'-8*j-8,by omega⟩;rw [Nat.pow_add,Nat.mod_mul_right_div_self,Nat.pow_add,show (2:Nat)^8=256 from rfl,Nat.mod_mul_right_mod]
  rw [e (q+1) (by omega),e q (by omega)]
 ·have hq:q+1≤8*j:=by omega
  have e:∀ q',q'≤8*j→N%2^q'/2^(8*j)=0:=fun q' hq' =>
   Nat.div_eq_of_lt (Nat.lt_of_lt_of_le (Nat.mod_lt _ (Nat.two_pow_pos _)) (Nat.pow_le_pow_right (by decide) hq'))
  rw [e (q+1) hq,e q (by omega)]
theorem le_more(N q n:Nat)(h:q/8<n):le (N%2^(q+1)) n=(le (N%2^q) n).set (q/8) (UInt8.ofNat ((N%2^q/256^(q/8)%256) ||| (N/2^q%2*2^(q%8)))):=by
 apply List.ext_getElem
 ·simp [le_len]
 ·intro j h1 h2;rw [List.getElem_set,le_get]
  split
  ·rename_i e;subst e;rw [byte_more]
  ·rename_i e;rw [le_get,byte_else _ _ _ (fun x=>e x.symm)]
end Go.Proofs.YtpkocnpamcchcaaGreatDoor
namespace Go.Proofs.YtpkocnpamcchcaaGreatDoor
open Go.RowKit Go.Zone Go.Shelf
attribute [local go_sem] zone stepZ fill lookFs goes goesUpon dropFs cell_gro frozen_gro size_gro lt_add drew_gro tape_gro keep_refl
def u64(n:Int):Nat:=(n%18446744073709551616).toNat
theorem u64_lt(n:Int):u64 n<18446744073709551616:=by unfold u64;omega
theorem u64_eq(n:Int):IntKind.u64.wrap n=((u64 n:Nat):Int):=by unfold u64;simp [IntKind.wrap,IntKind.signed,IntKind.bits];omega
def vB(x:Val):List UInt8:=if x.k==1 then le (u64 x.n) 8 else if x.k==2 then vu 9 x.s.size++x.s.data.toList else []
theorem strCells_b8(s:ByteArray):Lib.strCells s=s.data.toList.flatMap b8:=by
 unfold Lib.strCells b8;generalize s.data.toList=l
 induction l with
 | nil=>rfl
 | cons x r ih=>simp [List.flatMap_cons,← ih]
theorem wpList_appS{ops:Array Oper}{rest:List Oper}{o:Oper}{a:Act}{w:World}{Q:Exit→Act→World→Prop}(hgd:o.guard=none)(sl x:Operand)
 (ho:o.op=.call { callee:=.builtin .append,args:=#[sl,x],argTypes:=#[31,9] })
 {base:Nat} {v:Value} {bs:List UInt8} (hs:a.eval sl=v) (hown:OwnB w base v bs) (s:ByteArray) (hx:a.eval x=.string s)
 (hbytes:bs.length+s.size≤140737488355328) (hbase:base≤w.heap.size)
 (h:∀ v' w',OwnB w' base v' (bs++s.data.toList)→w.grownBy w' v.ownBlock→wpList Tryz.prog ops Q rest (a.put o.dst v') w'):wpList Tryz.prog ops Q (o :: rest) a w:=by
 obtain ⟨i,hi,h1,h2,h3⟩:=info_parts info_u8;refine Lib.wpList_append_own_string _ hgd sl x 31 9 ho base 5 i Tryz.underlying31 Tryz.underlying9 hi h1 h2 h3 v bs.length (bs.flatMap b8) hs hown s hx (by unfold maxLen;omega) hbytes hbase ?_;intro v' w' hr hg _;refine h v' w' ?_ hg;unfold OwnB Own;rw [List.length_append,List.flatMap_append,← strCells_b8];exact hr
theorem vapp_any(A:Option Addr)(c:Nat)(xs:List UInt8)(v:Val)(w:World)(h:SlB w A c xs)(hl:xs.length≤130000000000000)(hv:(v.s.size:Int)≤1000000000000) :
 Calls Tryz.prog 125 #[.slice A xs.length c,v.v] w fun e w'=>∃ u,e=.returned u∧OwnB w' w.heap.size u (xs++vB v)∧Keep w w':=by
 have HH:=lh h;clear h;obtain ⟨k0,n0,s0⟩:=v;simp only at hv
 cases h1:(k0==1)
 ·cases h2:(k0==2)
  ·have HV:Hid (vB ⟨k0,n0,s0⟩=[]):=by show _=_;simp [vB,h1,h2]
   go_enter Tryz.func125,Tryz.ntmps125;go_wp2_with (go_at_call 109;refine hold ?_);refine unhold ?_;refine (clone8_any A c xs _ (HH.out.keep (by repeat first|exact kp0|apply kp1|apply kp2|apply kp3|apply kp4))).mono ?_;rintro e w1 ⟨A1,c1,rfl,hown,hk⟩;go_wp2;go_ret;exact ⟨_,rfl,by rw [HV.out,List.append_nil];exact hown.base_mono (by simp),Keep.trans (Keep.alloc (Keep.refl _) _) hk⟩
  ·have hws:IntKind.u64.wrap (s0.size:Int)=(s0.size:Int):=by rw [u64_eq];unfold u64;omega
   go_enter Tryz.func125,Tryz.ntmps125;go_wp2
   first|refine Zone.wp_region_gro 8 (by kernel_rfl) (by kernel_rfl) ?_|refine Zone.wp_region 8 (by kernel_rfl) (by kernel_rfl) ?_
   simp only [List.take_succ_cons,List.take_zero,List.drop_succ_cons,List.drop_zero]
   iterate 5
    refine Zone.wpZ_step (fun K hK=>?_);go_simp
    (refine hK _ _ ?_;clear hK K)
   refine Zone.wpZ_free 21 (fun u W=>OwnB W (w.heap.size+1) u (xs++vu 9 s0.size)) rfl (fun _ _ _ hk h=>Own.keep h hk) ?_ ?_
   ·intro p;simp only [Zone.fill,Zone.lookFs,List.filter_nil];go_simp;go_at_call 165;refine (appUint_any A c xs s0.size (by omega) _ (HH.out.keep (by repeat first|exact kp0|apply kp1|apply kp2|apply kp3|apply kp4)) (by omega)).mono ?_;rintro e w1 ⟨u,rfl,hown,hk⟩;exact ⟨u,rfl,hown.base_mono (by simp [size_gro]),hk⟩
   ·simp only [Zone.dropFs,List.filter_nil];refine Zone.wpZ_step (fun K hK=>?_);unfold Zone.zone Zone.stepZ;rw [Zone.lookFs_nil (by rfl)];go_simp
    (refine hK _ _ ?_;clear hK K)
    refine Zone.wpZ_step (fun K hK=>?_);unfold Zone.zone Zone.stepZ;rw [Zone.lookFs_nil (by rfl)];go_simp
    (refine hK _ _ ?_;clear hK K)
    refine Zone.wpZ_nil ?_;intro p;simp only [Zone.fill];intro u hu;have HU:=lh hu;clear hu;have HV:Hid (vB ⟨k0,n0,s0⟩=vu 9 s0.size++s0.data.toList):=by show _=_;simp [vB,h1,h2]
    have hlv:=vu_len 9 s0.size;refine wpList_appS rfl (.tmp 21) (.tmp 23) rfl rfl HU.out s0 rfl (by simp;omega) (by simp [size_gro]) ?_;intro v1 w2 hown2 hg2;have ⟨a1,a2,a3⟩:=HU.out.after (w:=w) hg2 (by repeat first|exact kp0|apply kp1|apply kp2|apply kp3|apply kp4) (Nat.le_succ _);have HO4:=lh hown2;have HA1:=lh a1;clear hown2 hg2 a3 a2;go_wp2;go_ret;exact ⟨_,rfl,(by have:=HO4.out;rw [List.append_assoc,← HV.out] at this;exact Own.base_mono this (by omega)),HA1.out⟩
 ·have HV:Hid (vB ⟨k0,n0,s0⟩=le (u64 n0) 8):=by show _=_;simp [vB,h1]
  have HU:=u64_eq n0;have HL:=u64_lt n0;go_enter Tryz.func125,Tryz.ntmps125;go_wp2_with (go_at_call 164;refine hold ?_);refine unhold ?_;refine (app64_any A c xs (u64 n0) HL _ (HH.out.keep (by repeat first|exact kp0|apply kp1|apply kp2|apply kp3|apply kp4)) (by omega)).mono ?_;rintro e w1 ⟨u,rfl,hown,hk⟩;go_wp2;go_ret;exact ⟨_,rfl,by rw [HV.out];exact hown.base_mono (by simp),Keep.trans (Keep.alloc (Keep.refl _) _) hk⟩
def dBytes(kind:Int)(xs:List Val):List UInt8:=[UInt8.ofNat kind.toNat]++le xs.length 4++xs.flatMap vB
theorem vB_len(x:Val):(vB x).length≤x.s.size+10:=by
 unfold vB;have:=vu_len 9 x.s.size;have hs:x.s.data.toList.length=x.s.size:=by rw [Lib.size_eq]
 split
 ·simp [le_len]
 ·split
  ·rw [List.length_append];omega
  ·simp
theorem flat_vB(xs:List Val)(m:Nat)(h:∀ x∈xs,x.s.size≤m):(xs.flatMap vB).length≤xs.length*(m+10):=by
 induction xs with
 | nil=>simp
 | cons x r ih =>
   have h1:=ih fun y hy=>h y (by simp [hy]);have h2:=vB_len x;have h3:=h x (by simp);simp only [List.flatMap_cons,List.length_append,List.length_cons,Nat.add_mul];omega
theorem bytes_at{b c:Nat}{A:Option Addr}{xs:List Val}(kind:Int)(w:World)(h:DictAt w b kind A c xs)(hk0:0<kind)(hk1:kind<256)(hl:xs.length≤1000000)(hs:∀ x∈xs,x.s.size≤1000000) :
 Calls Tryz.prog 75 #[.pointer (some ⟨b,0,none⟩)] w fun e w'=>∃ v,e=.returned v∧OwnB w' w.heap.size v (dBytes kind xs)∧Keep w w':=by
 have HN:=lh (fun W (hW:Keep w W)=>by have:=none_at W (h.keep hW);rw [show (kind==0)=false by simp;omega] at this;exact this);have h0:=h.k;have h1:=h.l;have hb:=h.lt;have HSL:=lh h.sl;have HSZ:=lh hs;have hwl:IntKind.u32.wrap (xs.length:Int)=(xs.length:Int):=by simp [IntKind.wrap,IntKind.signed,IntKind.bits];omega
 clear h hs;go_enter Tryz.func75,Tryz.ntmps75;go_wp2_with (go_at_call 120;refine (HN.out _ (by repeat first|exact kp0|apply kp1|apply kp2|apply kp3|apply kp4)).mono ?_;rintro e w' ⟨rfl,rfl⟩)
 first|refine Zone.wp_region_gro 11 (by kernel_rfl) (by kernel_rfl) ?_|refine Zone.wp_region 11 (by kernel_rfl) (by kernel_rfl) ?_
 simp only [List.take_succ_cons,List.take_zero,List.drop_succ_cons,List.drop_zero]
 iterate 4
  refine Zone.wpZ_step (fun K hK=>?_);go_simp
  (refine hK _ _ ?_;clear hK K)
 refine Zone.wpZ_free 12 (fun u W=>∃ g,u=.slice (some ⟨g,0,none⟩) 1 1∧g<W.heap.size∧W.cell? ⟨g,0,none⟩=some (.int .u8 kind)) rfl (fun _ W W' hk ⟨g,h1,h2,h3⟩=>⟨g,h1,Nat.lt_of_lt_of_le h2 hk.size,(hk.cell (p:=⟨g,0,none⟩) h2).trans h3⟩) ?_ ?_
 ·intro p;simp only [Zone.fill,Zone.lookFs,List.filter_nil];go_simp;exact Keep.alloc (Keep.refl _) _
 ·simp only [Zone.dropFs,List.filter_nil];refine Zone.wpZ_step (fun K hK=>?_);unfold Zone.zone Zone.stepZ;rw [Zone.lookFs_nil (by rfl)];go_simp
  (refine hK _ _ ?_;clear hK K)
  refine Zone.wpZ_step (fun K hK=>?_);unfold Zone.zone Zone.stepZ;rw [Zone.lookFs_nil (by rfl)];go_simp
  (refine hK _ _ ?_;clear hK K)
  refine Zone.wpZ_step (fun K hK=>?_);unfold Zone.zone Zone.stepZ;rw [Zone.lookFs_nil (by rfl)];go_simp
  (refine hK _ _ ?_;clear hK K)
  refine Zone.wpZ_step (fun K hK=>?_);unfold Zone.zone Zone.stepZ;rw [Zone.lookFs_nil (by rfl)];go_simp
  (refine hK _ _ ?_;clear hK K)
  refine Zone.wpZ_step (fun K hK=>?_);unfold Zone.zone Zone.stepZ;rw [Zone.lookFs_nil (by rfl)];go_simp
  (refine hK _ _ ?_;clear hK K)
  refine Zone.wpZ_step (fun K hK=>?_);unfold Zone.zone Zone.stepZ;rw [Zone.lookFs_nil (by rfl)];go_simp
  (refine hK _ _ ?_;clear hK K)
  refine Zone.wpZ_nil ?_;intro p;simp only [Zone.fill];rintro u ⟨g,rfl,hg,hgc⟩;have HSB:=lh (show SlB (w.gro p) (some ⟨g,0,none⟩) 1 [UInt8.ofNat kind.toNat] from sl_one _ (by omega) (by omega) (b8_at _ (by rw [hgc,u8_nat];congr 2;omega)));clear hg hgc;go_wp2_with (go_at_call 31;refine hold ?_);refine unhold ?_;refine (app32_any (some ⟨g,0,none⟩) 1 [UInt8.ofNat kind.toNat] xs.length (by omega) _ HSB.out (by simp)).mono ?_;rintro e w1 ⟨v1,rfl,hown,hk⟩;have HO:=lh (show OwnB w1 w.heap.size v1 _ from hown.base_mono (by simp [size_gro]));have hkw:=Keep.trans (Keep.gro (Keep.refl w) p) hk;have hz:=hkw.size;have h1':w1.cell? ⟨b,1,none⟩=some (.slice A xs.length c):=(hkw.cell (p:=⟨b,1,none⟩) hb).trans h1;have hb':b<w1.heap.size:=Nat.lt_of_lt_of_le hb hz;have HK:=lh hkw;clear hown hk hkw HSB h0 h1 hb;go_wp2;go_loopw [25,3] (fun vi vb wr=>∃ (k:Nat) (o:Value),k≤xs.length∧vi=.int .i64 k∧o=vb∧Hid (OwnB wr w.heap.size o ([UInt8.ofNat kind.toNat]++le xs.length 4++(xs.take k).flatMap vB))∧Hid (Keep w wr)∧w.heap.size≤wr.heap.size) (fun vi _ _=>xs.length-(intOf vi).toNat)
  case atStart=>exact ⟨0,_,by omega,rfl,rfl,(by show OwnB _ _ _ _;simp only [List.take_zero,List.flatMap_nil,List.append_nil];exact HO.out),HK.out,hz⟩
  case round =>
   obtain ⟨k,o,hk,rfl,rfl,HO2,HK2,hz2⟩:=hrel
   by_cases hlt:k<xs.length
   ·obtain ⟨bx,off,rfl,hbx,c0,c1',c2'⟩:=sl_val (HSL.out.keep HK2.out) k hlt;have hsz:=HSZ.out xs[k] (List.getElem_mem hlt);have hvb:=vB_len xs[k];have hpre:=flat_vB (xs.take k) 1000000 (fun x hx=>HSZ.out x (List.mem_of_mem_take hx));have hpre2:(xs.take k).length*(1000000+10)≤1000000*1000010:=Nat.mul_le_mul (by simp;omega) (Nat.le_refl _);have HTK:=lh (show (xs.take (k+1)).flatMap vB=(xs.take k).flatMap vB++vB xs[k] by rw [List.take_succ_eq_append_getElem hlt,List.flatMap_append];simp);go_wp2_with (go_at_call 125;refine hold ?_);refine unhold ?_;refine (vapp_any none 0 [] xs[k] _ (Sl.nil_ _ (by omega)) (by simp) (by omega)).mono ?_;rintro e w2 ⟨u,rfl,hown,hk3⟩;simp only [List.nil_append] at hown;obtain ⟨A3,c3,rfl,hsl3⟩:=hown.sl b8_len (by omega);have hk4:=Keep.trans (Keep.alloc (Keep.refl wr) (.cells #[.int .u8 xs[k].k,.int .i64 xs[k].n,.string xs[k].s] 72)) hk3;have HS3:=lh hsl3;have hz4:=hk4.size;have HK4:=lh hk4;clear hown hk3 hsl3 hk4;go_wp2_with (at_builtin;refine hold ?_);refine unhold ?_;have HO3:=HO2.out.keep HK4.out;refine wpList_app elt_u8 b8_len b8_one rfl (.tmp 29) (.tmp 31) rfl (ys:=vB xs[k]) HO3 rfl rfl HS3.out (by simp only [List.length_append,le_len,List.length_cons,List.length_nil];omega) (by omega) ?_;intro v5 w5 hown5 hg5 _;have ⟨a1,a2,a3⟩:=HO3.after hg5 (HK2.out.trans HK4.out) (Nat.le_refl _);have HO4:=lh hown5;have HA1:=lh a1;clear hown5 hg5 HO3 a3;go_wp2;go_roundw
    case rel=>exact ⟨k+1,_,by omega,by go_num,rfl,(by show OwnB _ _ _ _;have:=HO4.out;rw [List.append_assoc,← HTK.out] at this;exact this),HA1.out,by omega⟩
    case measure=>simp [intOf];omega
   ·have hkx:k=xs.length:=by omega
    subst hkx;go_wp2;go_ret;refine ⟨_,rfl,?_,HK2.out⟩;have:=HO2.out;rw [List.take_length] at this;exact this
end Go.Proofs.YtpkocnpamcchcaaGreatDoor
namespace Go.Proofs.YtpkocnpamcchcaaGreatDoor
open Go.RowKit Go.Zone Go.Shelf
theorem step_app{α:Type}{P:Program}{w:World}{t e:TypeId}{k bytes:Nat}(E:Elt P t e k bytes){enc:α→List Value}(hk:∀ x,(enc x).length=k)(h1:∀ x,∀ u∈enc x,u.oneCell'=true){ops:Array Oper}{o:Oper}{a:Act}{K:Act→World→Prop}{Q:Exit→Act→World→Prop}{N:Prop}
 (hgd:o.guard=none) (s x:Operand) (ho:o.op=.call { callee:=.builtin .append,args:=#[s,x],argTypes:=#[t,t] })
 {base:Nat} {v:Value} {xs ys:List α} (hown:Own w base e k enc v xs) (hs:a.eval s=v) {A:Option Addr} {c:Nat} (hx:a.eval x=.slice A ys.length c) (hy:Sl w k enc A c ys)
 (hlen:(xs.length+ys.length)*bytes≤140737488355328) (hbase:base≤w.heap.size)
 (h:∀ v' w',Own w' base e k enc v' (xs++ys)→w.grownBy w' v.ownBlock→(v'.ownBlock=v.ownBlock∨v'.ownBlock=some w.heap.size)→K (a.put o.dst v') w'):if Region.wanted o (yielded ops a.tmps)=true then Oper.wp P o a w K Q else N:=by
 have hw:Region.wanted o (yielded ops a.tmps)=true:=by simp [Region.wanted,hgd]
 rw [if_pos hw];obtain ⟨v',w',hr,h2,h3,h4⟩:=run_app1 (ty:=o.type) E hk h1 hown hy hlen hbase;unfold Oper.wp execOp;simp only [ho,resolve,invoke,builtin,Sem.run_bind,Sem.run_pure,Result.andThen_ok,List.map_toArray,List.map_cons,List.map_nil,hs,hx,hr];exact h v' w' h2 h3 h4
theorem step_appS{ops:Array Oper}{o:Oper}{a:Act}{w:World}{K:Act→World→Prop}{Q:Exit→Act→World→Prop}{N:Prop}(hgd:o.guard=none)(sl x:Operand)
 (ho:o.op=.call { callee:=.builtin .append,args:=#[sl,x],argTypes:=#[31,9] })
 {base:Nat} {v:Value} {bs:List UInt8} (hs:a.eval sl=v) (hown:OwnB w base v bs) (s:ByteArray) (hx:a.eval x=.string s)
 (hbytes:bs.length+s.size≤140737488355328) (hbase:base≤w.heap.size)
 (h:∀ v' w',OwnB w' base v' (bs++s.data.toList)→w.grownBy w' v.ownBlock→K (a.put o.dst v') w'):if Region.wanted o (yielded ops a.tmps)=true then Oper.wp Tryz.prog o a w K Q else N:=by
 have hw:Region.wanted o (yielded ops a.tmps)=true:=by simp [Region.wanted,hgd]
 rw [if_pos hw];obtain ⟨i,hi,h1,h2,h3⟩:=info_parts info_u8;obtain ⟨v',w',hr,h4,h5,_⟩:=Lib.run_append_own_string (P:=Tryz.prog) w base 31 9 o.type 5 i Tryz.underlying31 Tryz.underlying9 hi h1 h2 h3 v bs.length (bs.flatMap b8) hown s (by unfold maxLen;omega) hbytes hbase;unfold Oper.wp execOp;simp only [ho,resolve,invoke,builtin,Sem.run_bind,Sem.run_pure,Result.andThen_ok,List.map_toArray,List.map_cons,List.map_nil,hs,hx,hr];refine h v' w' ?_ h5;unfold OwnB Own;rw [List.length_append,List.flatMap_append,← strCells_b8];exact h4
attribute [local go_sem] zone stepZ fill lookFs goes goesUpon dropFs cell_gro frozen_gro size_gro lt_add drew_gro tape_gro keep_refl
attribute [local go_sem] lt_add2 lt_add3 lt_add4 lt_add5 lt_add6 lt_add7 lt_add8 lt_add9 lt_add10 lt_add11 lt_add12
theorem bitLen_le:∀ (w n:Nat),n<2^64→(Lib.bitLen n≤w↔n<2^w)
 | 0,n,_=>by
   rcases Nat.eq_zero_or_pos n with h|h
   ·subst h;simp;decide
   ·rw [Lib.bitLen_half n (by omega) (by assumption)];simp;omega
 | w+1,n,hn=>by
   rcases Nat.eq_zero_or_pos n with h|h
   ·subst h;exact ⟨fun _=>Nat.two_pow_pos _,fun _=>by rw [show Lib.bitLen 0=0 by decide];exact Nat.zero_le _⟩
   ·rw [Lib.bitLen_half n (by omega) hn,Nat.pow_succ];have:=bitLen_le w (n/2) (by omega);omega
theorem len64_any(n:Nat)(hn:n<2^64)(w:World):Calls Tryz.prog 163 #[.int .u64 (n:Int)] w fun e w'=>e=.returned (.int .i64 (Lib.bitLen n:Nat))∧w'=w:=by
 have:=Any.bits_Len64 Tryz.lenL (n:Int) w (by omega) (by omega);rw [Int.toNat_natCast] at this;exact this
theorem len64_keep(n:Nat)(hn:n<2^64)(w:World):Calls Tryz.prog 163 #[.int .u64 (n:Int)] w fun e w'=>e=.returned (.int .i64 (Lib.bitLen n:Nat))∧Keep w w' :=
 (len64_any n hn w).mono fun _ _ ⟨h1,h2⟩=>⟨h1,h2 ▸ Keep.refl _⟩
def widthN(n:Nat):Nat:=max 1 (Lib.bitLen n)
theorem width_any(n:Nat)(hn:n<2^64)(w:World):Calls Tryz.prog 160 #[.int .u64 (n:Int)] w fun e w'=>e=.returned (.int .i64 (widthN n:Nat))∧Keep w w':=by
 have HL:=lh (len64_keep n hn);go_enter Tryz.func160,Tryz.ntmps160;go_wp2_with (go_at_call 163;refine (HL.out _).mono ?_;rintro e w' ⟨rfl,hk⟩;(first|obtain ⟨p,rfl⟩:=Zone.gro_of_gro _ _ hk|obtain ⟨p,rfl⟩:=Zone.gro_of_below _ hk);clear hk);go_ret;exact ⟨ret_int (by unfold widthN;omega),(by repeat first|exact kp0|apply kp1|apply kp2|apply kp3|apply kp4)⟩
theorem fits_pk(n wd:Nat)(h:n≤1099511627776)(h1:1≤wd)(h2:wd≤64)(w:World):Calls Tryz.prog 161 #[.int .i64 n,.int .i64 wd] w fun e w'=>e=.returned (.bool true)∧Keep w w':=by
 have hd1:decide ((0:Int)≤(n:Int))=true:=by simp
 have hd2:decide ((n:Int)≤1099511627776)=true:=by simp;omega
 have hd3:decide ((1:Int)≤(wd:Int))=true:=by simp;omega
 have hd4:decide ((wd:Int)≤64)=true:=by simp;omega
 go_enter Tryz.func161,Tryz.ntmps161;go_wp2
 all_goals go_ret
 all_goals exact ⟨by simp_all,(by repeat first|exact kp0|apply kp1|apply kp2|apply kp3|apply kp4)⟩
theorem size_pk(n wd:Nat)(h:n≤1099511627776)(h1:1≤wd)(h2:wd≤64)(w:World):Calls Tryz.prog 162 #[.int .i64 n,.int .i64 wd] w fun e w'=>e=.returned (.int .i64 ((n*wd+7)/8:Nat))∧Keep w w':=by
 have HF:=lh (fits_pk n wd h h1 h2);have hm:n*wd≤n*64:=Nat.mul_le_mul_left _ h2;have hm2:n*wd≤70368744177664:=by omega
 have HI:=lh (show ((n*wd+7)/8:Nat)=((n:Int)*(wd:Int)+7)/8 by
  rw [← Int.natCast_mul];omega)
 have hp:0≤(n:Int)*(wd:Int)∧(n:Int)*(wd:Int)≤70368744177664:=by rw [← Int.natCast_mul];omega
 obtain ⟨hp1,hp2⟩:=hp;generalize hx:(n:Int)*(wd:Int)=x at hp1 hp2 HI;clear hm hm2;have hw1:IntKind.i64.wrap x=x:=by rw [IntKind.wrap_i64];omega
 go_enter Tryz.func162,Tryz.ntmps162;go_wp2_with (go_at_call 161;refine (HF.out _).mono ?_;rintro e w' ⟨rfl,hk⟩;(first|obtain ⟨p,rfl⟩:=Zone.gro_of_gro _ _ hk|obtain ⟨p,rfl⟩:=Zone.gro_of_below _ hk);clear hk)
 all_goals go_ret
 all_goals exact ⟨ret_int (by rw [HI.out]),(by repeat first|exact kp0|apply kp1|apply kp2|apply kp3|apply kp4)⟩
def u64V(x:Nat):List Value:=[.int .u64 (x:Int)]
theorem sl_u64{w:World}{c:Nat}{A:Option Addr}{xs:List Nat}(h:Sl w 1 u64V A c xs)(i:Nat)(hi:i<xs.length):∃ b off,A=some ⟨b,off,none⟩∧b<w.heap.size∧w.cell? ⟨b,off+i,none⟩=some (.int .u64 (xs[i]:Int)):=by
 obtain ⟨b,off,hA,hc⟩:=h.at_ i hi;have h0:=hc 0 _ rfl;rw [Nat.mul_one,Nat.add_zero] at h0;exact ⟨b,off,hA,World.block_lt_of_cell? w _ h0,h0⟩
theorem b8_f(x:UInt8):b8 x=[.int .u8 (x.toNat:Int)]:=rfl
theorem u8_cast(n:Nat)(h:n<256):((UInt8.ofNat n).toNat:Int)=(n:Int):=by rw [u8_nat];omega
theorem pk_bits(x m t:Nat)(y:UInt8)(hx:x<2^64)(ht:t<8):bits .or .u8 (y.toNat:Int) (bits .and .u64 ((x:Int)/2^m) 1%256*2^t%256)=((UInt8.ofNat (y.toNat ||| (x/2^m%2*2^t))).toNat:Int):=by
 have e1:(x:Int)/2^m=((x/2^m:Nat):Int):=by simp
 have hd:x/2^m<2^64:=Nat.lt_of_le_of_lt (Nat.div_le_self _ _) hx;have e2:=u64_and_nat (x/2^m) 1 hd (by decide);rw [Nat.and_one_is_mod] at e2;rw [e1,show (1:Int)=((1:Nat):Int) from rfl,e2];generalize hb:x/2^m%2=b;have hb2:b≤1:=by omega
 have ht2:2^t≤2^7:=Nat.pow_le_pow_right (by decide) (by omega);have e3:(b:Int)%256*2^t%256=((b*2^t:Nat):Int):=by
  have:b*2^t≤1*2^t:=Nat.mul_le_mul_right _ hb2;have e4:(b:Int)%256=(b:Int):=by omega
  rw [e4,show (2:Int)^t=((2^t:Nat):Int) by simp,← Int.natCast_mul];omega
 have hbt:b*2^t<256:=by
  have:b*2^t≤1*2^t:=Nat.mul_le_mul_right _ hb2;omega
 rw [e3,u8_or_nat _ _ y.toNat_lt hbt,u8_cast];exact Nat.or_lt_two_pow (n:=8) y.toNat_lt hbt
theorem pack_any(A:Option Addr)(c wd:Nat)(l:List Nat)(w:World)(h:Sl w 1 u64V A c l)(h1:1≤wd)(h2:wd≤64)(hl:l.length≤1000000000)(hb:∀ x∈l,x<2^wd) :
 Calls Tryz.prog 124 #[.slice A l.length c,.int .i64 wd] w fun e w'=>∃ v,e=.returned (.tuple #[v,.int .i64 0])∧OwnB w' w.heap.size v (packB l wd)∧Keep w w':=by
 have HF:=lh (fits_pk l.length wd (by omega) h1 h2);have HZ:=lh (size_pk l.length wd (by omega) h1 h2);have HL:=lh (fun n hn=>len64_keep n hn);have HB:=lh hb;have hpos:2^wd≤2^64:=Nat.pow_le_pow_right (by decide) h2;have HP:=lh hpos;have H:=lh h;have hmul:l.length*wd≤1000000000*64:=Nat.mul_le_mul hl h2;have HLN:=lh hmul;clear h hb hpos hmul;generalize hn:(l.length*wd+7)/8=n at HZ;have HN:=lh hn;clear hn;go_enter Tryz.func124,Tryz.ntmps124;go_wp2_with (first|(go_at_call 161;refine (HF.out _).mono ?_;rintro e w' ⟨rfl,hk⟩;(first|obtain ⟨p,rfl⟩:=Zone.gro_of_gro _ _ hk|obtain ⟨p,rfl⟩:=Zone.gro_of_below _ hk);clear hk)|(go_at_call 162;refine (HZ.out _).mono ?_;rintro e w' ⟨rfl,hk⟩;(first|obtain ⟨p,rfl⟩:=Zone.gro_of_gro _ _ hk|obtain ⟨p,rfl⟩:=Zone.gro_of_below _ hk);clear hk));rename GB=>p;have hk0:Keep w (w.gro p):=below_gro _ _;generalize w.gro p=w1 at hk0 ⊢;obtain ⟨i0,hi0,i1,i2,i3⟩:=info_parts info_u8;obtain ⟨W',hr,ho,hk⟩:=own_made1 (P:=Tryz.prog) (z:=(0:UInt8)) b8_f rfl Tryz.underlying31 hi0 i1 i2 n w.heap.size w1 (by have:=HN.out;have:=HLN.out;rw [i3];omega) (by have:=HN.out;have:=HLN.out;omega) hk0.size;rw [hr];have HO:=lh ho;have HK:=lh (hk0.trans hk);clear ho hk hr i0 hi0 i1 i2 i3 hk0;generalize w1.heap.size=g at HO ⊢;clear w1;have e0:List.replicate n (0:UInt8)=le (numL wd l%2^(0*wd)) n:=by
  rw [Nat.zero_mul,Nat.pow_zero,Nat.mod_one];apply List.ext_getElem
  ·simp [le_len]
  ·intro j h1 h2;rw [le_get];simp
 rw [e0] at HO;clear e0;go_wp2;go_loopw [23] (fun i wr=>∃ k:Nat,k≤l.length∧i=.int .i64 k∧Hid (OwnB wr w.heap.size (.slice (some ⟨g,0,none⟩) n n) (le (numL wd l%2^(k*wd)) n))∧Hid (Keep w wr)) (fun i _=>l.length-(intOf i).toNat)
 case atStart=>exact ⟨0,Nat.zero_le _,rfl,HO.out,HK.out⟩
 case round =>
  clear HO HK;obtain ⟨k,hk,rfl,HO,HK⟩:=hrel
  by_cases hlt:k<l.length
  ·obtain ⟨b,off,hA,hb,h0⟩:=sl_u64 (H.out.keep HK.out) k hlt;have hx:=HB.out l[k] (List.getElem_mem hlt);have hx64:l[k]<18446744073709551616:=Nat.lt_of_lt_of_le hx HP.out;have hbl:(Lib.bitLen l[k]:Int)≤wd:=by have:=(bitLen_le wd l[k] hx64).2 hx;omega
   have HC:=lh (fun W=>len64_keep l[k] hx64 W);subst hA;go_wp2_with (go_at_call 163;refine (HC.out _).mono ?_;rintro e w' ⟨rfl,hk⟩;(first|obtain ⟨p,rfl⟩:=Zone.gro_of_gro _ _ hk|obtain ⟨p,rfl⟩:=Zone.gro_of_below _ hk);clear hk);have HK2:=lh (show Keep w (wr.gro p) from HK.out.trans (below_gro _ _));have HO2:=lh (HO.out.keep (below_gro wr p));generalize wr.gro p=w2 at HK2 HO2 ⊢;clear HO HK H HC h0 hb hbl;have HX:=lh (numL_bit l k · hlt HB.out ·);have hkw:k*wd+wd≤l.length*wd:=by rw [← Nat.succ_mul];exact Nat.mul_le_mul_right _ hlt
   obtain ⟨Q,hQ⟩:∃ Q,Q=k*wd:=⟨_,rfl⟩;have HQ:=lh hQ;have hQw:(k:Int)*(wd:Int)=(Q:Int):=by rw [hQ,Int.natCast_mul]
   rw [← hQ] at HO2 hkw;have HKW:=lh hkw;clear hQ hkw;generalize l[k]=x at hx hx64 HX;go_loopw [33] (fun i wr=>∃ m:Nat,m≤wd∧i=.int .i64 m∧Hid (OwnB wr w.heap.size (.slice (some ⟨g,0,none⟩) n n) (le (numL wd l%2^(Q+m)) n))∧Hid (Keep w wr)) (fun i _=>wd-(intOf i).toNat)
   case atStart=>exact ⟨0,Nat.zero_le _,rfl,HO2.out,HK2.out⟩
   case round =>
    clear HO2 HK2;obtain ⟨m,hm,rfl,HO,HK⟩:=hrel
    by_cases hmt:m<wd
    ·obtain ⟨q,hq⟩:∃ q,q=Q+m:=⟨_,rfl⟩;have hq2:(Q:Int)+(m:Int)=(q:Int):=by omega
     obtain ⟨j,hj⟩:∃ j,j=q/8:=⟨_,rfl⟩;obtain ⟨t,ht⟩:∃ t,t=q%8:=⟨_,rfl⟩;have hj2:(q:Int)/8=(j:Int):=by omega
     have ht2:(q:Int)%8=(t:Int):=by omega
     have hjn:j<n:=by have:=HN.out;have:=HKW.out;omega
     have hbig:q≤100000000000:=by have:=HLN.out;have:=HKW.out;omega
     rw [← hq] at HO;have HQQ:=lh hq;have HJ:=lh hj;have HT:=lh ht;have htlt:t<8:=by omega
     obtain ⟨c0,c1,c2,c3⟩:=HO.out.cell1 b8_f (by rw [le_len]) j (by rw [le_len];exact hjn);obtain ⟨y,hy⟩:∃ y,y=(le (numL wd l%2^q) n)[j]'(by rw [le_len];exact hjn):=⟨_,rfl⟩;rw [← hy] at c0;have HY:=lh hy;clear hy;clear hq hj ht;go_wp2;go_region;have hset:(le (numL wd l%2^q) n).set j (UInt8.ofNat (y.toNat ||| (x/2^m%2*2^t)))=le (numL wd l%2^(q+1)) n:=by
      rw [le_more _ _ _ (show q/8<n by rw [← HJ.out];exact hjn),← HJ.out,← HT.out]
      congr 2
      have hxb:=HX.out m hmt;rw [← HQ.out,← HQQ.out] at hxb;rw [hxb]
      congr 1
      rw [HY.out,le_get];simp
     have HO3:=HO.out.set1 b8_f (by rw [le_len]) j (UInt8.ofNat (y.toNat ||| (x/2^m%2*2^t))) (u:=.int .u8 (bits .or .u8 (y.toNat:Int) (bits .and .u64 ((x:Int)/2^m) 1%256*2^t%256))) (by rw [pk_bits x m t y hx64 htlt]);rw [hset] at HO3;have HO4:=lh HO3;have HC3:=lh c3;clear HO3 hset c0 c1 c2 c3;go_wp2;go_roundw
     case rel=>exact ⟨m+1,by omega,by go_num,(by have:=HO4.out;rw [HQQ.out] at this;exact this),(HK.out.setCell HC3.out _).drew⟩
     case measure=>simp [intOf];omega
    ·have hmw:m=wd:=by omega
     subst hmw;go_wp2;go_roundw
     case rel=>exact ⟨k+1,by omega,by go_num,(by have:=HO.out;rw [HQ.out,← Nat.succ_mul] at this;exact this),HK.out⟩
     case measure=>simp [intOf];omega
  ·have hkl:k=l.length:=by omega
   subst hkl;have hN:=HN.out;have hq:numL wd l%2^(l.length*wd)=numL wd l:=Nat.mod_eq_of_lt (numL_lt l HB.out);rw [hq] at HO;clear hq hN;go_wp2;exact bodyPost_ret (v:=.tuple #[.slice (some ⟨g,0,none⟩) n n,.int .i64 0]) (by simp [results,Tryz.results124,go_sem]) rfl ⟨_,rfl,(by have:=HO.out;rw [← HN.out] at this ⊢;exact this),HK.out⟩
end Go.Proofs.YtpkocnpamcchcaaGreatDoor
