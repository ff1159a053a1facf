/- Parts of the proof. -/
import Derived.Shelf.Strconv.Itoa3
import Derived.Ground.NamesProg
import Derived.Shelf.Strconv.Itoa0
import Derived.Test.YtpkocnpamcchcaaGreatDoorJ05
set_option maxRecDepth 100000
set_option maxHeartbeats 4000000
set_option linter.unusedSimpArgs false
set_option linter.unusedVariables false
namespace Go.Proofs
open Go.Shelf
def Tryz.itoaL_ren:Go.Shelf.Ren:=⟨fun|171=>68|243=>110|246=>156|283=>188|284=>189|285=>190|286=>191|129=>163|317=>224|318=>225|319=>226|320=>227|337=>265|338=>266|n=>n,fun|3=>3|9=>9|2=>2|4=>4|171=>255|0=>0|53=>47|37=>31|5=>5|173=>257|212=>290|51=>81|20=>20|213=>291|46=>162|232=>340|233=>341|n=>n,fun|17=>0|18=>1|19=>2|n=>n⟩
theorem Tryz.itoaL:Go.Proofs.LaysM.n171 Tryz.prog Tryz.itoaL_ren:={
 mixed:=by kernel_rfl
 f129:=Tryz.func163.trans (congrArg some (by kernel_rfl))
 f171:=Tryz.func68.trans (congrArg some (by kernel_rfl))
 f243:=Tryz.func110.trans (congrArg some (by kernel_rfl))
 f246:=Tryz.func156.trans (congrArg some (by kernel_rfl))
 f283:=Tryz.func188.trans (congrArg some (by kernel_rfl))
 f284:=Tryz.func189.trans (congrArg some (by kernel_rfl))
 f285:=Tryz.func190.trans (congrArg some (by kernel_rfl))
 f286:=Tryz.func191.trans (congrArg some (by kernel_rfl))
 f317:=Tryz.func224.trans (congrArg some (by kernel_rfl))
 f318:=Tryz.func225.trans (congrArg some (by kernel_rfl))
 f319:=Tryz.func226.trans (congrArg some (by kernel_rfl))
 f320:=Tryz.func227.trans (congrArg some (by kernel_rfl))
 f337:=Tryz.func265.trans (congrArg some (by kernel_rfl))
 f338:=Tryz.func266.trans (congrArg some (by kernel_rfl))
 t0:=Tryz.underlying0
 a0:=Tryz.isAgg0
 z0:=Tryz.sizeOf0
 v0:=Tryz.zeroValue0
 t2:=Tryz.underlying2
 a2:=Tryz.isAgg2
 z2:=Tryz.sizeOf2
 v2:=Tryz.zeroValue2
 t3:=Tryz.underlying3
 a3:=Tryz.isAgg3
 z3:=Tryz.sizeOf3
 v3:=Tryz.zeroValue3
 t4:=Tryz.underlying4
 a4:=Tryz.isAgg4
 z4:=Tryz.sizeOf4
 v4:=Tryz.zeroValue4
 t5:=Tryz.underlying5
 a5:=Tryz.isAgg5
 z5:=Tryz.sizeOf5
 v5:=Tryz.zeroValue5
 t9:=Tryz.underlying9
 a9:=Tryz.isAgg9
 z9:=Tryz.sizeOf9
 v9:=Tryz.zeroValue9
 t20:=Tryz.underlying20
 a20:=Tryz.isAgg20
 z20:=Tryz.sizeOf20
 v20:=Tryz.zeroValue20
 t37:=Tryz.underlying31
 a37:=Tryz.isAgg31
 z37:=Tryz.sizeOf31
 v37:=Tryz.zeroValue31
 t46:=Tryz.underlying162
 a46:=Tryz.isAgg162
 z46:=Tryz.sizeOf162
 v46:=Tryz.zeroValue162
 t51:=Tryz.underlying81
 a51:=Tryz.isAgg81
 z51:=Tryz.sizeOf81
 v51:=Tryz.zeroValue81
 t53:=Tryz.underlying47
 a53:=Tryz.isAgg47
 z53:=Tryz.sizeOf47
 v53:=Tryz.zeroValue47
 t171:=Tryz.underlying255
 a171:=Tryz.isAgg255
 z171:=Tryz.sizeOf255
 v171:=Tryz.zeroValue255
 t173:=Tryz.underlying257
 a173:=Tryz.isAgg257
 z173:=Tryz.sizeOf257
 v173:=Tryz.zeroValue257
 t212:=Tryz.underlying290
 a212:=Tryz.isAgg290
 z212:=Tryz.sizeOf290
 v212:=Tryz.zeroValue290
 t213:=Tryz.underlying291
 a213:=Tryz.isAgg291
 z213:=Tryz.sizeOf291
 t232:=Tryz.underlying340
 a232:=Tryz.isAgg340
 z232:=Tryz.sizeOf340
 v232:=Tryz.zeroValue340
 t233:=Tryz.underlying341
 a233:=Tryz.isAgg341
 z233:=Tryz.sizeOf341
 v233:=Tryz.zeroValue341
 g17:=by kernel_rfl
 g18:=by kernel_rfl
 g19:=by kernel_rfl
 i0:=by kernel_rfl
 i2:=by kernel_rfl
 i3:=by kernel_rfl
 i4:=by kernel_rfl
 i5:=by kernel_rfl
 i9:=by kernel_rfl
 i20:=by kernel_rfl
 i37:=by kernel_rfl
 i46:=by kernel_rfl
 i51:=by kernel_rfl
 i53:=by kernel_rfl
 i171:=by kernel_rfl
 i173:=by kernel_rfl
 i212:=by kernel_rfl
 i232:=by kernel_rfl
 i233:=by kernel_rfl
 m17:=by kernel_rfl
 m18:=by kernel_rfl
 m19:=by kernel_rfl }
end Go.Proofs
namespace Go.Proofs.YtpkocnpamcchcaaGreatDoor
open Go.RowKit Go.Zone Go.Shelf
attribute [local go_sem] zone stepZ fill lookFs goes goesUpon dropFs cell_gro frozen_gro size_gro lt_add drew_gro tape_gro keep_refl
attribute [local go_sem high] run_eq_val run_ne_val run_eqG_val
def pl(a:List Val × Bool):Nat:=if a.2 then a.1.length else a.1.length+1
theorem stepPut_len(v:Val)(a:List Val × Bool)(x:Val):pl (stepPut v a x)=pl a+1:=by
 obtain ⟨l,b⟩:=a;unfold stepPut pl
 cases b<;>cases lessV v x<;>simp
theorem putS_len(v:Val)(xs:List Val):pl (putS v xs)=xs.length+1:=by
 unfold putS
 suffices h:∀ (xs:List Val) (a:List Val × Bool),pl (xs.foldl (stepPut v) a)=pl a+xs.length by
  have:=h xs ([],false);rw [this];simp [pl];omega
 intro xs
 induction xs with
 | nil=>intro a;rfl
 | cons x r ih =>
   intro a;rw [List.foldl_cons,ih,stepPut_len,List.length_cons];omega
theorem putV_len(xs:List Val)(v:Val):(putV xs v).length≤xs.length+1:=by
 have h:=putS_len v xs;unfold putV
 split
 ·omega
 ·split
  ·rename_i hb;simp [pl,hb] at h;omega
  ·rename_i hb;simp [pl,hb] at h;simp;omega
theorem putV_mem(xs:List Val)(v:Val):∀ x∈putV xs v,x∈xs∨x=v:=by
 have hs:∀ (ys:List Val) (a:List Val × Bool),∀ x∈(ys.foldl (stepPut v) a).1,x∈ys∨x=v∨x∈a.1:=by
  intro ys
  induction ys with
  | nil=>intro a x hx;exact .inr (.inr hx)
  | cons y r ih =>
    intro a x hx
    rcases ih _ x hx with h|h|h
    ·exact .inl (List.mem_cons_of_mem _ h)
    ·exact .inr (.inl h)
    ·unfold stepPut at h
     split at h<;>simp at h
     ·rcases h with h|h|h
      ·exact .inr (.inr h)
      ·exact .inr (.inl h)
      ·exact .inl (by rw [h];exact List.mem_cons_self)
     ·rcases h with h|h
      ·exact .inr (.inr h)
      ·exact .inl (by rw [h];exact List.mem_cons_self)
 intro x hx;unfold putV at hx;have h1:=hs xs ([],false)
 split at hx
 ·exact .inl hx
 ·split at hx
  ·rcases h1 x hx with h|h|h
   ·exact .inl h
   ·exact .inr h
   ·cases h
  ·rcases List.mem_append.1 hx with hx|hx
   ·rcases h1 x hx with h|h|h
    ·exact .inl h
    ·exact .inr h
    ·cases h
   ·exact .inr (by simpa using hx)
def putAll(xs:List Val):List Val:=xs.foldl putV []
theorem putAll_succ(xs:List Val)(k:Nat)(h:k<xs.length):putAll (xs.take (k+1))=putV (putAll (xs.take k)) xs[k]:=by
 unfold putAll;rw [List.take_succ_eq_append_getElem h,List.foldl_append];rfl
theorem putAll_len:∀ (xs:List Val),(putAll xs).length≤xs.length:=by
 suffices h:∀ (xs a:List Val),(xs.foldl putV a).length≤a.length+xs.length by
  intro xs;have:=h xs [];simpa [putAll] using this
 intro xs
 induction xs with
 | nil=>intro a;simp
 | cons x r ih=>intro a;have:=ih (putV a x);have:=putV_len a x;simp only [List.foldl_cons,List.length_cons];omega
theorem putAll_mem:∀ (xs:List Val),∀ x∈putAll xs,x∈xs:=by
 suffices h:∀ (xs a:List Val),∀ x∈xs.foldl putV a,x∈xs∨x∈a by
  intro xs x hx;rcases h xs [] x hx with h|h
  ·exact h
  ·cases h
 intro xs
 induction xs with
 | nil=>intro a x hx;exact .inr hx
 | cons y r ih =>
   intro a x hx
   rcases ih (putV a y) x hx with h|h
   ·exact .inl (List.mem_cons_of_mem _ h)
   ·rcases putV_mem a y x h with h|h
    ·exact .inr h
    ·exact .inl (by rw [h];exact List.mem_cons_self)
def rOf(kind:Int)(xs:List Val):List Val × Int :=
 if kind != 1&&kind != 2 then ([],2) else if xs.any noMay then ([],2) else if xs.any (fun x=>x.k != kind) then ([],9) else (putAll xs,0)
theorem rof_new(kind:Int)(A:Option Addr)(c:Nat)(xs:List Val)(w:World)(h:Sl w 3 Val.cells A c xs)(hs:∀ x∈xs,x.s.size≤maxLen)(hl:xs.length≤900000) :
 Calls Tryz.prog 48 #[.int .u8 kind,.slice A xs.length c] w fun e w'=>∃ A' c',e=.returned (.tuple #[.slice A' (rOf kind xs).1.length c',.int .i64 (rOf kind xs).2])∧Sl w' 3 Val.cells A' c' (rOf kind xs).1∧Keep w w'∧Fresh w.heap.size A' (rOf kind xs).1.length:=by
 have HS:=lh hs;clear hs
 by_cases hk:(kind != 1&&kind != 2)=true
 ·have hv:rOf kind xs=([],2):=by unfold rOf;rw [if_pos hk]
  rw [hv];have hk1:(kind != 1)=true:=by simp at hk ⊢;exact hk.1
  have hk2:(kind != 2)=true:=by simp at hk ⊢;exact hk.2
  clear hk hv;go_enter Tryz.func48,Tryz.ntmps48;go_wp2;go_ret2;exact ⟨none,0,rfl,Sl.nil_ _ (by omega),Keep.refl _,fun _ _ h=>by cases h⟩
 ·have hv:rOf kind xs=if xs.any noMay then ([],2) else if xs.any (fun x=>x.k != kind) then ([],9) else (putAll xs,0):=by unfold rOf;rw [if_neg hk]
  rw [hv];have hcase:((kind != 1)=false)∨((kind != 1)=true∧(kind != 2)=false):=by
   simp only [Bool.and_eq_true,bne_iff_ne,ne_eq,not_and,Decidable.not_not,bne_eq_false_iff_eq] at hk ⊢
   by_cases e:kind=1
   ·exact .inl e
   ·exact .inr ⟨e,hk e⟩
  clear hk hv;have hlen:=h.len
  suffices hbody:∀ _u:Unit,(Calls Tryz.prog 48 #[.int .u8 kind,.slice A xs.length c] w fun e w'=>∃ A' c',e=.returned (.tuple #[.slice A' (if xs.any noMay then (([]:List Val),(2:Int)) else if xs.any (fun x=>x.k != kind) then ([],9) else (putAll xs,0)).1.length c',.int .i64 (if xs.any noMay then (([]:List Val),(2:Int)) else if xs.any (fun x=>x.k != kind) then ([],9) else (putAll xs,0)).2])∧Sl w' 3 Val.cells A' c' (if xs.any noMay then (([]:List Val),(2:Int)) else if xs.any (fun x=>x.k != kind) then ([],9) else (putAll xs,0)).1∧Keep w w'∧Fresh w.heap.size A' (if xs.any noMay then (([]:List Val),(2:Int)) else if xs.any (fun x=>x.k != kind) then ([],9) else (putAll xs,0)).1.length) from hbody ()
  intro _;generalize hR:(if xs.any noMay then (([]:List Val),(2:Int)) else if xs.any (fun x=>x.k != kind) then ([],9) else (putAll xs,0))=R;have HR:=lh hR;clear hR
  rcases hcase with hk1 | ⟨hk1,hk2⟩
  all_goals
   go_enter Tryz.func48,Tryz.ntmps48;go_wp2;go_loopw [6] (fun i wr=>∃ k:Nat,k≤xs.length∧i=.int .i64 k∧Hid (Keep w wr)∧Hid (∀ j,(h:j<xs.length)→j<k→noMay xs[j]=false)) (fun i _=>xs.length-(intOf i).toNat)
   case atStart=>exact ⟨0,Nat.zero_le _,rfl,Keep.refl _,fun j _ hj=>absurd hj (Nat.not_lt_zero _)⟩
   case round =>
    obtain ⟨k,hk,rfl,HK,HN⟩:=hrel
    by_cases hlt:k<xs.length
    ·have hcall:=fun W=>rmay_any xs[k] W;obtain ⟨bx,off,rfl,hbx,c0,c1,c2⟩:=sl_val (h.keep HK.out) k hlt
     cases hm:mayV xs[k]
     ·rw [hm] at hcall;have HC:=lh hcall;clear hcall;go_wp2_with (go_at_call 92;refine (HC.out _).mono ?_;rintro e w' ⟨rfl,hk⟩;(first|obtain ⟨p,rfl⟩:=Zone.gro_of_gro _ _ hk|obtain ⟨p,rfl⟩:=Zone.gro_of_below _ hk);clear hk);go_ret2;have hr:R=([],2):=by rw [← HR.out,if_pos (List.any_eq_true.2 ⟨xs[k],List.getElem_mem _,by simp [noMay,hm]⟩)]
      exact ⟨none,0,by rw [hr];rfl,by rw [hr];exact Sl.nil_ _ (by omega),HK.out.gro _,fun _ _ h=>by cases h⟩
     ·rw [hm] at hcall;have HC:=lh hcall;clear hcall;have HM:Hid (noMay xs[k]=false):=by show _=_;simp [noMay,hm]
      clear hm;go_wp2_with (go_at_call 92;refine (HC.out _).mono ?_;rintro e w' ⟨rfl,hk⟩;(first|obtain ⟨p,rfl⟩:=Zone.gro_of_gro _ _ hk|obtain ⟨p,rfl⟩:=Zone.gro_of_below _ hk);clear hk);go_roundw
      case rel=>exact ⟨k+1,by omega,by go_num,HK.out.gro _,fun j hj hjk=>by
          by_cases e:j=k
          ·subst e;exact HM.out
          ·exact HN.out j hj (by omega)⟩
      case measure=>simp [intOf];omega
    ·have HN':Hid (xs.any noMay=false):=by
         show _=_;rw [List.any_eq_false];intro x hx;obtain ⟨j,hj,rfl⟩:=List.getElem_of_mem hx;simp [HN.out j hj (by omega)]
     clear HN;go_wp2;go_loopw [7,8] (fun vo i wr=>∃ (k:Nat) (A':Option Addr) (c':Nat),k≤xs.length∧i=.int .i64 k∧vo=.slice A' (putAll (xs.take k)).length c'∧Hid (Sl wr 3 Val.cells A' c' (putAll (xs.take k)))∧Hid (Keep w wr)∧Hid (Fresh w.heap.size A' (putAll (xs.take k)).length)∧Hid (∀ j,(h:j<xs.length)→j<k→(xs[j].k != kind)=false)) (fun _ i _=>xs.length-(intOf i).toNat)
     case atStart=>exact ⟨0,none,0,Nat.zero_le _,rfl,rfl,Sl.nil_ _ (by omega),HK.out,(fun _ _ h=>by cases h),fun j _ hj=>absurd hj (Nat.not_lt_zero _)⟩
     case round =>
         obtain ⟨k,A',c',hk,rfl,rfl,HL,HK,HFR,HN⟩:=hrel
         by_cases hlt:k<xs.length
         ·obtain ⟨bx,off,rfl,hbx,c0,c1,c2⟩:=sl_val (h.keep HK.out) k hlt
          cases hkk:xs[k].k != kind
          ·have hcall:=fun W (hW:Keep _ W)=>put_new w.heap.size A' c' (putAll (xs.take k)) xs[k] W (Nat.le_trans HK.out.size hW.size) HFR.out (HL.out.keep hW) (fun x hx=>HS.out x (List.mem_of_mem_take (putAll_mem _ x hx))) (HS.out _ (List.getElem_mem _)) (by have:=putAll_len (xs.take k);simp at this;omega);rw [← putAll_succ xs k hlt] at hcall;have HC:=lh hcall;clear hcall;have HKK:=lh hkk;go_wp2_with (go_at_call 94;refine (HC.out _ (Keep.refl _)).mono ?_;rintro e w' ⟨A2,c2',rfl,hsl,hk2',hfr2⟩);clear hkk;go_roundw
           case rel=>exact ⟨k+1,A2,c2',by omega,by go_num,rfl,hsl,HK.out.trans hk2',hfr2,fun j hj hjk=>by
              by_cases e:j=k
              ·subst e;exact HKK.out
              ·exact HN.out j hj (by omega)⟩
           case measure=>simp [intOf];omega
          ·go_wp2;go_ret2;have hr:R=([],9):=by rw [← HR.out,HN'.out,if_neg (by simp),if_pos (List.any_eq_true.2 ⟨xs[k],List.getElem_mem _,hkk⟩)]
           exact ⟨none,0,by rw [hr];rfl,by rw [hr];exact Sl.nil_ _ (by omega),HK.out,fun _ _ h=>by cases h⟩
         ·have hkl:k=xs.length:=by omega
          have hr:R=(putAll (xs.take k),0):=by
           rw [← HR.out,HN'.out,if_neg (by simp),if_neg,hkl,List.take_length];rw [Bool.not_eq_true,List.any_eq_false];intro x hx;obtain ⟨j,hj,rfl⟩:=List.getElem_of_mem hx;simp [HN.out j hj (by omega)]
          have HR2:=lh hr;clear hkl hr;go_wp2;go_ret2;exact ⟨A',c',by rw [HR2.out];rfl,by rw [HR2.out];exact HL.out,HK.out,by rw [HR2.out];exact HFR.out⟩
theorem rof_any(kind:Int)(A:Option Addr)(c:Nat)(xs:List Val)(w:World)(h:Sl w 3 Val.cells A c xs)(hs:∀ x∈xs,x.s.size≤maxLen)(hl:xs.length≤900000) :
 Calls Tryz.prog 48 #[.int .u8 kind,.slice A xs.length c] w fun e w'=>∃ A' c',e=.returned (.tuple #[.slice A' (rOf kind xs).1.length c',.int .i64 (rOf kind xs).2])∧Sl w' 3 Val.cells A' c' (rOf kind xs).1∧Keep w w':=by
 refine (rof_new kind A c xs w h hs hl).mono ?_;rintro e w' ⟨A',c',he,h1,h2,_⟩;exact ⟨A',c',he,h1,h2⟩
end Go.Proofs.YtpkocnpamcchcaaGreatDoor
namespace Go.Proofs.YtpkocnpamcchcaaGreatDoor
open Go.RowKit Go.Zone Go.Shelf
attribute [local go_sem] zone stepZ fill lookFs goes goesUpon dropFs cell_gro frozen_gro size_gro lt_add drew_gro tape_gro keep_refl
def lower(xs:List Val)(v:Val):Nat:=(xs.takeWhile fun x=>decide (cmpV x v<0)).length
theorem lower_eq:∀ (xs:List Val) (v:Val) (n:Nat),n≤xs.length→(∀ j,(h:j<xs.length)→j<n→cmpV xs[j] v<0)→((h:n<xs.length)→0≤cmpV xs[n] v)→lower xs v=n
 | [],_,n,hn,_,_=>by have:n=0:=by simpa using hn
                     subst this;rfl
 | x :: r,v,0,_,_,h=>by
   have:=h (by simp);simp only [List.getElem_cons_zero] at this;simp [lower,this]
 | x :: r,v,n+1,hn,h1,h2=>by
   have h0:=h1 0 (by simp) (by omega);simp only [List.getElem_cons_zero] at h0;have ih:=lower_eq r v n (by simpa using hn) (fun j hj hjn=>by have:=h1 (j+1) (by simpa using hj) (by omega);simpa using this) (fun h=>by have:=h2 (by simpa using h);simpa using this);unfold lower at ih ⊢;simp [h0,ih]
def hits(xs:List Val)(v:Val):Bool:=match xs[lower xs v]? with|some x=>cmpV x v==0|none=>false
theorem search_any(A:Option Addr)(c:Nat)(xs:List Val)(v:Val)(w:World)(h:Sl w 3 Val.cells A c xs)(hm:∀ i j,(hi:i<xs.length)→(hj:j<xs.length)→i≤j→cmpV xs[j] v<0→cmpV xs[i] v<0) :
 Calls Tryz.prog 121 #[.slice A xs.length c,v.v,.func (.func 63) #[] #[]] w fun e w'=>e=.returned (.tuple #[.int .i64 (lower xs v),.bool (hits xs v)])∧Keep w w':=by
 have HM:=lh hm;clear hm;have hlen:=h.len;have hcall:=fun (x:Val) W=>compare_any x v W;have HL:=lh (lower_eq xs v);obtain ⟨k0,n0,s0⟩:=v;have HC:=lh hcall;clear hcall;go_enter Tryz.func121,Tryz.ntmps121;go_wp2;go_loopw [9,10] (fun vi vj wr=>∃ (i j:Nat),i≤j∧j≤xs.length∧vi=.int .i64 i∧vj=.int .i64 j∧Hid (Keep w wr)∧Hid (∀ a,(h:a<xs.length)→a<i→cmpV xs[a] ⟨k0,n0,s0⟩<0)∧Hid (∀ a,(h:a<xs.length)→j≤a→0≤cmpV xs[a] ⟨k0,n0,s0⟩) ∧
  w.heap.size<wr.heap.size∧wr.cell? ⟨w.heap.size,0,none⟩=some (.int .u8 k0)∧wr.cell? ⟨w.heap.size,1,none⟩=some (.int .i64 n0)∧wr.cell? ⟨w.heap.size,2,none⟩=some (.string s0)) (fun vi vj _=>(intOf vj).toNat-(intOf vi).toNat)
 case atStart=>exact ⟨0,xs.length,Nat.zero_le _,Nat.le_refl _,rfl,rfl,(by repeat first|exact kp0|apply kp1|apply kp2|apply kp3|apply kp4),fun a _ ha=>absurd ha (Nat.not_lt_zero _),fun a h1 h2=>absurd h1 (by omega),by simp,by simp [go_sem],by simp [go_sem],by simp [go_sem]⟩
 case round =>
  obtain ⟨i,j,hij,hj,rfl,rfl,HK,HA,HB,hz,b0,b1,b2⟩:=hrel
  by_cases hlt:i<j
  ·go_wp2;obtain ⟨m,hme⟩:∃ m:Nat,((i:Int)+(j:Int))/2=m:=⟨(i+j)/2,by omega⟩;simp only [hme];have hm1:i≤m:=by omega
   have hm2:m<j:=by omega
   clear hme;have hml:m<xs.length:=by omega
   obtain ⟨bx,off,rfl,hbx,c0,c1,c2⟩:=sl_val (h.keep HK.out) m hml;have hcm:=fun W=>HC.out xs[m] W;have HMono:=lh (fun a (ha:a<xs.length) (hm:a≤m)=>HM.out a m ha hml hm);have HMono2:=lh (fun a (ha:a<xs.length) (hm:m≤a)=>HM.out m a hml ha hm);generalize hq:cmpV xs[m] ⟨k0,n0,s0⟩=q at hcm HMono HMono2;have HQ:=lh hq;clear hq;have HCM:=lh hcm;clear hcm
   by_cases hq0:q<0
   ·first|refine Zone.wp_region_all_gro (by kernel_rfl) (by kernel_rfl) ?_|refine Zone.wp_region_all (by kernel_rfl) (by kernel_rfl) ?_
    repeat
     refine Zone.wpZ_step (fun K hK=>?_);go_simp
     first
     | (refine hK _ _ ?_;clear hK K)
     | (apply Exists.intro
        refine ⟨fun p=>?_,hK _ _ ?_⟩
        ((go_at_call 63;exact Zone.zc (HCM.out _)))
        clear hK K)
    refine Zone.wpZ_nil ?_;intro p;simp only [Zone.fill];go_wp2;go_roundw
    case rel=>exact ⟨m+1,j,by omega,hj,by go_num,rfl,HK.out.gro _,fun a ha hai=>HMono.out a ha (by omega) hq0,HB.out,by simp [size_gro];omega,by simp [cell_gro,hz,b0],by simp [cell_gro,hz,b1],by simp [cell_gro,hz,b2]⟩
    case measure=>simp [intOf];omega
   ·first|refine Zone.wp_region_all_gro (by kernel_rfl) (by kernel_rfl) ?_|refine Zone.wp_region_all (by kernel_rfl) (by kernel_rfl) ?_
    repeat
     refine Zone.wpZ_step (fun K hK=>?_);go_simp
     first
     | (refine hK _ _ ?_;clear hK K)
     | (apply Exists.intro
        refine ⟨fun p=>?_,hK _ _ ?_⟩
        ((go_at_call 63;exact Zone.zc (HCM.out _)))
        clear hK K)
    refine Zone.wpZ_nil ?_;intro p;simp only [Zone.fill];go_wp2;go_roundw
    case rel=>exact ⟨i,m,hm1,by omega,rfl,rfl,HK.out.gro _,HA.out,fun a ha hai=>by
     have:=HMono2.out a ha hai
     rcases Int.lt_or_le (cmpV xs[a] ⟨k0,n0,s0⟩) 0 with h0|h0
     ·exact absurd (this h0) hq0
     ·exact h0,by simp [size_gro];omega,by simp [cell_gro,hz,b0],by simp [cell_gro,hz,b1],by simp [cell_gro,hz,b2]⟩
    case measure=>simp [intOf];omega
  ·have hlow:=HL.out i (by omega) HA.out (fun hi=>HB.out i hi (by omega));have HH:Hid (hits xs ⟨k0,n0,s0⟩=match xs[i]? with|some x=>cmpV x ⟨k0,n0,s0⟩==0|none=>false):=by
    show _=_;unfold hits;rw [hlow]
   have HLW:=lh hlow;clear hlow;clear HL HM
   by_cases hil:i<xs.length
   ·obtain ⟨bx,off,rfl,hbx,c0,c1,c2⟩:=sl_val (h.keep HK.out) i hil;have hcm:=fun W=>HC.out xs[i] W;have HH2:Hid (hits xs ⟨k0,n0,s0⟩=(cmpV xs[i] ⟨k0,n0,s0⟩==0)):=by
     show _=_;rw [HH.out,List.getElem?_eq_getElem hil]
    clear HH;generalize cmpV xs[i] ⟨k0,n0,s0⟩=q at hcm HH2;have HCM:=lh hcm;clear hcm;go_wp2
    first|refine Zone.wp_region_all_gro (by kernel_rfl) (by kernel_rfl) ?_|refine Zone.wp_region_all (by kernel_rfl) (by kernel_rfl) ?_
    repeat
     refine Zone.wpZ_step (fun K hK=>?_);go_simp
     first
     | (refine hK _ _ ?_;clear hK K)
     | (apply Exists.intro
        refine ⟨fun p=>?_,hK _ _ ?_⟩
        ((go_at_call 63;exact Zone.zc (HCM.out _)))
        clear hK K)
    refine Zone.wpZ_nil ?_;intro p;simp only [Zone.fill];go_wp2;go_ret2;exact ⟨by rw [HLW.out,HH2.out];rfl,HK.out.gro _⟩
   ·have HH2:Hid (hits xs ⟨k0,n0,s0⟩=false):=by
     show _=_;rw [HH.out,List.getElem?_eq_none (by omega)]
    go_wp2
    first|refine Zone.wp_region_all_gro (by kernel_rfl) (by kernel_rfl) ?_|refine Zone.wp_region_all (by kernel_rfl) (by kernel_rfl) ?_
    repeat
     refine Zone.wpZ_step (fun K hK=>?_);go_simp
     first
     | (refine hK _ _ ?_;clear hK K)
     | (apply Exists.intro
        refine ⟨fun p=>?_,hK _ _ ?_⟩
        ((go_at_call 63;exact Zone.zc (HC.out _ _)))
        clear hK K)
    refine Zone.wpZ_nil ?_;intro p;simp only [Zone.fill];go_wp2;go_ret2;exact ⟨by rw [HLW.out,HH2.out];rfl,HK.out.gro _⟩
attribute [local go_sem high] run_eq_val run_ne_val run_eqG_val
end Go.Proofs.YtpkocnpamcchcaaGreatDoor
namespace Go.Proofs.YtpkocnpamcchcaaGreatDoor
open Go.RowKit Go.Zone Go.Shelf
attribute [local go_sem] zone stepZ fill lookFs goes goesUpon dropFs cell_gro frozen_gro size_gro lt_add drew_gro tape_gro keep_refl
section
variable {b:Nat} {kind:Int} {A:Option Addr} {c:Nat} {xs:List Val}
theorem none_at(w:World)(h:DictAt w b kind A c xs):Calls Tryz.prog 120 #[.pointer (some ⟨b,0,none⟩)] w fun e w'=>e=.returned (.bool (kind==0))∧w=w':=by
 have h0:=h.k;clear h;go_enter Tryz.func120,Tryz.ntmps120;go_wp2;go_ret;exact ⟨rfl,rfl⟩
theorem len_at(w:World)(h:DictAt w b kind A c xs):Calls Tryz.prog 73 #[.pointer (some ⟨b,0,none⟩)] w fun e w'=>e=.returned (.int .i64 (if kind=0 then 0 else xs.length))∧w=w':=by
 have h1:=h.l;have hn:=none_at w h;clear h
 by_cases hk:kind=0
 ·rw [if_pos hk];rw [show (kind==0)=true by simp [hk]] at hn;have HN:=lh hn;clear hn hk;go_enter Tryz.func73,Tryz.ntmps73;go_wp2_with (go_at_call 120;refine (HN.out).mono ?_;rintro e w' ⟨rfl,rfl⟩);go_ret;exact ⟨rfl,rfl⟩
 ·rw [if_neg hk];rw [show (kind==0)=false by simp [hk]] at hn;have HN:=lh hn;clear hn hk;go_enter Tryz.func73,Tryz.ntmps73;go_wp2_with (go_at_call 120;refine (HN.out).mono ?_;rintro e w' ⟨rfl,rfl⟩);go_ret;exact ⟨rfl,rfl⟩
def zeroVal:Val:=⟨0,0,⟨#[]⟩⟩
theorem mono_of(hs:xs.Pairwise LtV)(v:Val):∀ i j,(hi:i<xs.length)→(hj:j<xs.length)→i≤j→cmpV xs[j] v<0→cmpV xs[i] v<0:=fun i j hi hj hij h=>by
 rw [cmpV_lt] at *
 rcases Nat.lt_or_ge i j with h1|h1
 ·exact (List.pairwise_iff_getElem.1 hs i j hi hj h1).trans h
 ·have:i=j:=by omega
  subst this;exact h
def findV(kind:Int)(xs:List Val)(v:Val):Int × Bool:=if kind=0 then (0,false) else if hits xs v then (lower xs v,true) else (0,false)
theorem ret_ib{a a':Int}{x x':Bool}(h:(a,x)=(a',x')):Ending.returned (.tuple #[.int .i64 a,.bool x])=.returned (.tuple #[.int .i64 a',.bool x']):=by
 simp only [Prod.mk.injEq] at h;obtain ⟨rfl,rfl⟩:=h;rfl
theorem find_at(v:Val)(w:World)(h:DictAt w b kind A c xs)(hs:xs.Pairwise LtV):Calls Tryz.prog 72 #[.pointer (some ⟨b,0,none⟩),v.v] w fun e w'=>e=.returned (.tuple #[.int .i64 (findV kind xs v).1,.bool (findV kind xs v).2])∧Keep w w':=by
 have hse:=fun W (hW:Keep w W)=>search_any A c xs v W (h.sl.keep hW) (mono_of hs v);generalize hR:findV kind xs v=R;have h1:=h.l;have hb:=h.lt
 by_cases hk:kind=0
 ·have hr:R=(0,false):=by rw [← hR];simp [findV,hk]
  have HR:=lh hr;subst hk;have HN:=lh (fun W (hW:Keep w W)=>none_at W (h.keep hW));obtain ⟨k,n,s⟩:=v;clear h hr hR h1 hse;go_enter Tryz.func72,Tryz.ntmps72;go_wp2_with (go_at_call 120;refine (HN.out _ (by repeat first|exact kp0|apply kp1|apply kp2|apply kp3|apply kp4)).mono ?_;rintro e w' ⟨rfl,rfl⟩);go_ret2;exact ⟨ret_ib HR.out.symm,(by repeat first|exact kp0|apply kp1|apply kp2|apply kp3|apply kp4)⟩
 ·have hr:R=if hits xs v then ((lower xs v:Int),true) else (0,false):=by rw [← hR];simp [findV,hk]
  have HR:=lh hr;have HN:=lh (fun W (hW:Keep w W)=>by have:=none_at W (h.keep hW);rw [show (kind==0)=false by simp [hk]] at this;exact this);generalize hits xs v=q at hse HR;generalize lower xs v=l at hse HR;obtain ⟨k,n,s⟩:=v;have HS:=lh hse;clear h hr hR hse
  cases q
  all_goals
   go_enter Tryz.func72,Tryz.ntmps72;go_wp2_with (go_at_call 120;refine (HN.out _ (by repeat first|exact kp0|apply kp1|apply kp2|apply kp3|apply kp4)).mono ?_;rintro e w' ⟨rfl,rfl⟩)
   first|refine Zone.wp_region_all_gro (by kernel_rfl) (by kernel_rfl) ?_|refine Zone.wp_region_all (by kernel_rfl) (by kernel_rfl) ?_
   repeat
    refine Zone.wpZ_step (fun K hK=>?_);go_simp
    first
    | (refine hK _ _ ?_;clear hK K)
    | (apply Exists.intro
       refine ⟨fun p=>?_,hK _ _ ?_⟩
       ((go_at_call 121;exact Zone.zc (HS.out _ (by repeat first|exact kp0|apply kp1|apply kp2|apply kp3|apply kp4))))
       clear hK K)
   refine Zone.wpZ_nil ?_;intro p;simp only [Zone.fill];go_wp2;go_ret2;exact ⟨ret_ib HR.out.symm,(by repeat first|exact kp0|apply kp1|apply kp2|apply kp3|apply kp4)⟩
end
end Go.Proofs.YtpkocnpamcchcaaGreatDoor
namespace Go.Proofs.YtpkocnpamcchcaaGreatDoor
open Go.RowKit Go.Zone Go.Shelf Go.Sort
theorem sorted_unique:∀ (l m:List Val),l.Pairwise LtV→m.Pairwise LtV→(∀ x,x∈l↔x∈m)→l=m
 | [],[],_,_,_=>rfl
 | [],y :: m,_,_,h=>by have:=(h y).2 (by simp);cases this
 | x :: l,[],_,_,h=>by have:=(h x).1 (by simp);cases this
 | x :: l,y :: m,hl,hm,h=>by
   have hl':=List.pairwise_cons.1 hl;have hm':=List.pairwise_cons.1 hm;have hxy:x=y:=by
     rcases List.mem_cons.1 ((h x).1 (by simp)) with e|e
     ·exact e
     ·rcases List.mem_cons.1 ((h y).2 (by simp)) with e'|e'
      ·exact e'.symm
      ·exact absurd ((hm'.1 x e).trans (hl'.1 y e')) (LtV.irrefl y)
   subst hxy
   congr 1
   refine sorted_unique l m hl'.2 hm'.2 fun z=>?_;have hz:=h z;simp only [List.mem_cons] at hz;constructor
   ·intro hzl
    rcases hz.1 (.inr hzl) with e|e
    ·subst e;exact absurd (hl'.1 z hzl) (LtV.irrefl z)
    ·exact e
   ·intro hzm
    rcases hz.2 (.inr hzm) with e|e
    ·subst e;exact absurd (hm'.1 z hzm) (LtV.irrefl z)
    ·exact e
theorem putS_false(v:Val):∀ (xs:List Val) (a:List Val),(∀ x∈xs,¬ LtV v x)→xs.foldl (stepPut v) (a,false)=(a++xs,false)
 | [],a,_=>by simp
 | x :: r,a,h=>by
   have h0:lessV v x=false:=by
     cases hl:lessV v x
     ·rfl
     ·exact absurd ((lessV_iff v x).1 hl) (h x (by simp))
   rw [List.foldl_cons];simp only [stepPut,h0,Bool.and_false,Bool.false_eq_true,if_false];rw [putS_false v r _ fun x hx=>h x (by simp [hx])];simp
theorem putS_true(v:Val):∀ (xs:List Val) (a:List Val),xs.foldl (stepPut v) (a,true)=(a++xs,true)
 | [],a=>by simp
 | x :: r,a=>by
   rw [List.foldl_cons];simp only [stepPut,Bool.not_true,Bool.false_and,Bool.false_eq_true,if_false];rw [putS_true v r];simp
theorem any_eqV(xs:List Val)(v:Val):(xs.any fun x=>eqV x v)=true↔v∈xs:=by
 rw [List.any_eq_true];constructor
 ·rintro ⟨x,hx,he⟩;rw [(eqV_iff x v).1 he] at hx;exact hx
 ·intro h;exact ⟨v,h,(eqV_iff v v).2 rfl⟩
theorem split_at(v:Val):∀ (xs:List Val),xs.Pairwise LtV→v∉xs→∃ a b,xs=a++b∧(∀ x∈a,LtV x v)∧(∀ x∈b,LtV v x)
 | [],_,_=>⟨[],[],rfl,by simp,by simp⟩
 | x :: r,h,hv=>by
   have h':=List.pairwise_cons.1 h
   rcases LtV.tri x v with t|t|t
   ·obtain ⟨a,b,e,h1,h2⟩:=split_at v r h'.2 (fun hm=>hv (by simp [hm]));exact ⟨x :: a,b,by simp [e],fun y hy=>by
     rcases List.mem_cons.1 hy with rfl|hy
     ·exact t
     ·exact h1 y hy,h2⟩
   ·subst t;exact absurd (by simp) hv
   ·exact ⟨[],x :: r,rfl,by simp,fun y hy=>by
     rcases List.mem_cons.1 hy with rfl|hy
     ·exact t
     ·exact t.trans (h'.1 y hy)⟩
theorem putV_split(v:Val)(a b:List Val)(ha:∀ x∈a,LtV x v)(hb:∀ x∈b,LtV v x):putV (a++b) v=a++v :: b:=by
 have hv:v∉a++b:=fun h=>by
  rcases List.mem_append.1 h with h|h
  ·exact LtV.irrefl v (ha v h)
  ·exact LtV.irrefl v (hb v h)
 have h1:=putS_false v a [] fun x hx h=>LtV.irrefl v (h.trans (ha x hx));have hS:putS v (a++b)=b.foldl (stepPut v) (a,false):=by
  unfold putS;rw [List.foldl_append,h1];simp
 unfold putV;rw [if_neg (fun h=>hv ((any_eqV _ _).1 h)),hS]
 cases b with
 | nil=>simp
 | cons y r =>
   have hy:lessV v y=true:=(lessV_iff v y).2 (hb y (by simp));rw [List.foldl_cons];simp only [stepPut,hy,Bool.not_false,Bool.and_true,if_true];rw [putS_true v r];simp
theorem putV_sorted(xs:List Val)(v:Val)(h:xs.Pairwise LtV):(putV xs v).Pairwise LtV∧∀ x,x∈putV xs v↔x∈xs∨x=v:=by
 by_cases hv:v∈xs
 ·have:putV xs v=xs:=by unfold putV;rw [if_pos ((any_eqV _ _).2 hv)]
  rw [this];refine ⟨h,fun x=>⟨.inl,fun hx=>?_⟩⟩
  rcases hx with hx|rfl
  ·exact hx
  ·exact hv
 ·obtain ⟨a,b,rfl,ha,hb⟩:=split_at v xs h hv;rw [putV_split v a b ha hb];refine ⟨?_,fun x=>?_⟩
  ·rw [List.pairwise_append] at h ⊢;refine ⟨h.1,List.pairwise_cons.2 ⟨hb,h.2.1⟩,fun x hx y hy=>?_⟩
   rcases List.mem_cons.1 hy with rfl|hy
   ·exact ha x hx
   ·exact h.2.2 x hx y hy
  ·simp only [List.mem_append,List.mem_cons];constructor
   ·rintro (h|rfl|h)
    ·exact .inl (.inl h)
    ·exact .inr rfl
    ·exact .inl (.inr h)
   ·rintro ((h|h)|rfl)
    ·exact .inl h
    ·exact .inr (.inr h)
    ·exact .inr (.inl rfl)
theorem putAll_sorted(xs:List Val):(putAll xs).Pairwise LtV∧∀ x,x∈putAll xs↔x∈xs:=by
 suffices h:∀ (xs a:List Val),a.Pairwise LtV→(xs.foldl putV a).Pairwise LtV∧∀ x,x∈xs.foldl putV a↔x∈xs∨x∈a by
  have:=h xs [] List.Pairwise.nil;exact ⟨this.1,fun x=>by have:=this.2 x;simpa [putAll] using this⟩
 intro xs
 induction xs with
 | nil=>intro a ha;exact ⟨ha,fun x=>by simp⟩
 | cons y r ih =>
   intro a ha;have h1:=putV_sorted a y ha;have h2:=ih (putV a y) h1.1;refine ⟨h2.1,fun x=>?_⟩;rw [List.foldl_cons,h2.2 x,h1.2 x,List.mem_cons];constructor
   ·rintro (h|h|h)
    ·exact .inl (.inr h)
    ·exact .inr h
    ·exact .inl (.inl h)
   ·rintro ((h|h)|h)
    ·exact .inr (.inr h)
    ·exact .inl h
    ·exact .inr (.inl h)
def LeV(x y:Val):Prop:=¬ LtV y x
theorem sortV_sorted(xs:List Val):(sortV xs).Pairwise LeV:=by
 have h:=List.pairwise_mergeSort (le:=fun x y=>!(ltOf cmpV) y x) (fun a b c h1 h2=>by
  simp only [Bool.not_eq_true'] at *;exact swoV.ntrans c b a h2 h1) (fun a b=>by
  cases h1:ltOf cmpV b a
  ·rfl
  ·cases h2:ltOf cmpV a b
   ·simp
   ·exact absurd (swoV.trans a b a h2 h1) (by rw [swoV.irrefl];simp)) xs
 refine h.imp fun {a b} hab=>?_;simp only [Bool.not_eq_true',ltOf,decide_eq_false_iff_not,cmpV_lt] at hab;exact hab
theorem sortV_mem(xs:List Val)(x:Val):x∈sortV xs↔x∈xs:=List.mem_mergeSort
theorem ddTo_sorted(xs:List Val)(h:xs.Pairwise LeV):∀ m,m≤xs.length→(ddTo xs m).Pairwise LtV∧(∀ x,x∈ddTo xs m↔x∈xs.take m)
 | 0,_=>⟨by simp [ddTo],fun x=>by simp [ddTo]⟩
 | m+1,hm=>by
   have ih:=ddTo_sorted xs h m (by omega);have hml:m<xs.length:=by omega
   have hg:xs.getD m default=xs[m]:=by simp [hml]
   have hmem:∀ x,x∈xs.take (m+1)↔x∈xs.take m∨x=xs[m]:=fun x=>by
    rw [List.take_succ_eq_append_getElem hml,List.mem_append,List.mem_singleton]
   unfold ddTo;rw [hg]
   split
   ·rename_i hc;refine ⟨?_,fun x=>by rw [List.mem_append,ih.2 x,List.mem_singleton,hmem x]⟩;rw [List.pairwise_append];refine ⟨ih.1,List.pairwise_singleton _ _,fun x hx y hy=>?_⟩;rw [List.mem_singleton] at hy;subst hy;rw [ih.2 x] at hx;obtain ⟨i,hi,rfl⟩:=List.getElem_of_mem hx;have him:i<m:=by simp at hi;omega
    rw [List.getElem_take]
    rcases hc with hc|hc
    ·omega
    ·have hm1:xs.getD (m-1) default=xs[m-1]:=by simp [show m-1<xs.length by omega]
     rw [hm1] at hc;have hne:xs[m]≠xs[m-1]:=fun e=>by rw [(eqV_iff _ _).2 e] at hc;cases hc
     have hle:=List.pairwise_iff_getElem.1 h;have h1:LtV xs[m-1] xs[m]:=by
      rcases LtV.tri xs[m-1] xs[m] with t|t|t
      ·exact t
      ·exact absurd t.symm hne
      ·exact absurd t (hle (m-1) m (by omega) hml (by omega))
     rcases Nat.lt_or_ge i (m-1) with h2|h2
     ·have h3:=hle i (m-1) (by omega) (by omega) h2
      rcases LtV.tri xs[i] xs[m-1] with t|t|t
      ·exact t.trans h1
      ·rw [t];exact h1
      ·exact absurd t h3
     ·have:i=m-1:=by omega
      subst this;exact h1
   ·rename_i hc;have hc':m≠0∧eqV xs[m] (xs.getD (m-1) default)=true:=by
     constructor
     ·intro e;exact hc (.inl e)
     ·cases he:eqV xs[m] (xs.getD (m-1) default)
      ·exact absurd (.inr he) hc
      ·rfl
    refine ⟨ih.1,fun x=>?_⟩;rw [ih.2 x,hmem x];constructor
    ·exact .inl
    ·rintro (hx|rfl)
     ·exact hx
     ·have e:=(eqV_iff _ _).1 hc'.2;rw [e,List.getD_eq_getElem?_getD,List.getElem?_eq_getElem (by omega),Option.getD_some];exact List.mem_take_iff_getElem.2 ⟨m-1,by omega,rfl⟩
theorem dOwn_sorted(xs:List Val):(dOwn xs).Pairwise LtV∧∀ x,x∈dOwn xs↔x∈xs:=by
 have h:=ddTo_sorted (sortV xs) (sortV_sorted xs) (sortV xs).length (Nat.le_refl _);refine ⟨h.1,fun x=>?_⟩;have:=h.2 x;rw [List.take_length,sortV_mem] at this;exact this
theorem dOwn_put(xs:List Val):dOwn xs=putAll xs :=
 sorted_unique _ _ (dOwn_sorted xs).1 (putAll_sorted xs).1 fun x=>by rw [(dOwn_sorted xs).2 x,(putAll_sorted xs).2 x]
theorem rOf_d(kind:Int)(xs:List Val):rOf kind xs=if dErr kind xs=0 then (dOwn xs,0) else ([],dErr kind xs):=by
 unfold rOf dErr badKind;have hk:(!(kind==1||kind==2))=(kind != 1&&kind != 2):=by simp [bne]
 rw [hk];have ha:(dOwn xs).any (fun x=>x.k != kind)=xs.any (fun x=>x.k != kind):=by
  rw [Bool.eq_iff_iff,List.any_eq_true,List.any_eq_true];constructor<;>rintro ⟨x,hx,h⟩<;>exact ⟨x,by simpa [(dOwn_sorted xs).2 x] using hx,h⟩
 rw [ha,← dOwn_put]
 (repeat' split)<;>simp_all
theorem takeWhile_all{α:Type}(p:α→Bool):∀ (l:List α) (i:Nat) (h:i<(l.takeWhile p).length),(hl:i<l.length)→p l[i]=true
 | [],i,h,_=>by simp at h
 | x :: r,i,h,hl=>by
   rw [List.takeWhile_cons] at h
   split at h
   ·rename_i hx
    cases i with
    | zero=>exact hx
    | succ i=>exact takeWhile_all p r i (by simpa using h) (by simpa using hl)
   ·simp at h
theorem takeWhile_end{α:Type}(p:α→Bool):∀ (l:List α) (h:(l.takeWhile p).length<l.length),p l[(l.takeWhile p).length]=false
 | [],h=>by simp at h
 | x :: r,h=>by
   by_cases hx:p x=true
   ·have:=takeWhile_end p r (by rw [List.takeWhile_cons,if_pos hx] at h;simpa using h);simp only [List.takeWhile_cons,hx,if_true,List.length_cons,List.getElem_cons_succ];exact this
   ·simp only [List.takeWhile_cons,hx,if_false,List.length_nil,List.getElem_cons_zero]
    simpa using hx
theorem lower_lt(xs:List Val)(v:Val)(i:Nat)(h:i<lower xs v)(hl:i<xs.length):LtV xs[i] v:=by
 have:=takeWhile_all _ xs i h hl
 simpa [cmpV_lt] using this
theorem lower_end(xs:List Val)(v:Val)(h:lower xs v<xs.length):¬ LtV xs[lower xs v] v:=by
 intro hlt;rw [← cmpV_lt] at hlt;have h2:decide (cmpV xs[lower xs v] v<0)=false:=takeWhile_end _ xs h;simp only [decide_eq_false_iff_not] at h2;exact h2 hlt
theorem hits_iff(xs:List Val)(v:Val):hits xs v=true↔∃ h:lower xs v<xs.length,xs[lower xs v]=v:=by
 unfold hits
 rcases Nat.lt_or_ge (lower xs v) xs.length with h|h
 ·rw [List.getElem?_eq_getElem h];simp only [beq_iff_eq,cmpV_eq];exact ⟨fun e=>⟨h,e⟩,fun ⟨_,e⟩=>e⟩
 ·rw [List.getElem?_eq_none h];simp only [Bool.false_eq_true,false_iff];rintro ⟨h',_⟩;omega
section
variable {xs:List Val} {v:Val} (hs:xs.Pairwise LtV)
include hs
theorem at_hit(i:Nat)(hi:i<xs.length):xs[i]=v↔hits xs v=true∧i=lower xs v:=by
 constructor
 ·intro e;have hle:lower xs v≤i:=by
   rcases Nat.lt_or_ge i (lower xs v) with h|h
   ·have:=lower_lt xs v i h hi;rw [e] at this;exact absurd this (LtV.irrefl v)
   ·exact h
  have hlt:lower xs v<xs.length:=by omega
  have heq:i=lower xs v:=by
   rcases Nat.lt_or_ge (lower xs v) i with h|h
   ·have h1:=List.pairwise_iff_getElem.1 hs _ i hlt hi h;rw [e] at h1;exact absurd h1 (lower_end xs v hlt)
   ·omega
  exact ⟨(hits_iff xs v).2 ⟨hlt,by subst heq;exact e⟩,heq⟩
 ·rintro ⟨h,rfl⟩;exact ((hits_iff xs v).1 h).2
end
end Go.Proofs.YtpkocnpamcchcaaGreatDoor
namespace Go.Proofs
open Go.Shelf
def Tryz.lenL_ren:Go.Shelf.Ren:=⟨fun|129=>163|n=>n,fun|53=>47|3=>3|4=>4|46=>162|5=>5|9=>9|n=>n,fun|n=>n⟩
theorem Tryz.lenL:Go.Proofs.Lays.n129 Tryz.prog Tryz.lenL_ren:={
 mixed:=by kernel_rfl
 f129:=Tryz.func163.trans (congrArg some (by kernel_rfl))
 t3:=Tryz.underlying3
 a3:=Tryz.isAgg3
 z3:=Tryz.sizeOf3
 v3:=Tryz.zeroValue3
 t4:=Tryz.underlying4
 a4:=Tryz.isAgg4
 z4:=Tryz.sizeOf4
 v4:=Tryz.zeroValue4
 t5:=Tryz.underlying5
 a5:=Tryz.isAgg5
 z5:=Tryz.sizeOf5
 v5:=Tryz.zeroValue5
 t9:=Tryz.underlying9
 a9:=Tryz.isAgg9
 z9:=Tryz.sizeOf9
 v9:=Tryz.zeroValue9
 t46:=Tryz.underlying162
 a46:=Tryz.isAgg162
 z46:=Tryz.sizeOf162
 v46:=Tryz.zeroValue162
 t53:=Tryz.underlying47
 a53:=Tryz.isAgg47
 z53:=Tryz.sizeOf47
 v53:=Tryz.zeroValue47 }
end Go.Proofs
