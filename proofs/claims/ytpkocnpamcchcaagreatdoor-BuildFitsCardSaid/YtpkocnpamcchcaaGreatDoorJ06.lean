/- Parts of the proof. -/
import Derived.Laws.MakeOwn
import Derived.Laws.OwnMore
import Derived.Laws.CopyOwn
import Derived.Deep.Cut
import Derived.Deep.CutRange
import Derived.Test.YtpkocnpamcchcaaGreatDoorJ05
set_option maxRecDepth 100000
set_option maxHeartbeats 4000000
set_option linter.unusedSimpArgs false
set_option linter.unusedVariables false
namespace Go.Proofs.YtpkocnpamcchcaaGreatDoor
open Go.RowKit Go.Zone Go.Shelf
attribute [local go_sem] zone stepZ fill lookFs goes goesUpon dropFs cell_gro frozen_gro size_gro lt_add drew_gro tape_gro keep_refl
def b8(b:UInt8):List Value:=[.int .u8 (b.toNat:Int)]
theorem info_u8:(Tryz.prog.info? 5).map (fun i=>(i.zero,i.size,i.bytes))=some (some (.int .u8 0),1,1):=by kernel_rfl
theorem elt_u8:Elt Tryz.prog 31 5 1 1:=by
 obtain ⟨i,hi,h1,h2,h3⟩:=info_parts info_u8;exact ⟨i,_,Tryz.underlying31,hi,h1,h2,h3,rfl,by decide,by decide⟩
theorem b8_len(x:UInt8):(b8 x).length=1:=rfl
theorem b8_one(x:UInt8):∀ u∈b8 x,u.oneCell'=true:=by simp [b8,Value.oneCell']
theorem b8_at(x:UInt8){w:World}{g:Nat}(h0:w.cell? ⟨g,0,none⟩=some (.int .u8 (x.toNat:Int))):∀ j u,(b8 x)[j]? =some u→w.cell? ⟨g,j,none⟩=some u
 | 0,u,hu=>by cases hu;exact h0
abbrev OwnB(w:World)(base:Nat)(v:Value)(bs:List UInt8):Prop:=Own w base 5 1 b8 v bs
abbrev SlB(w:World)(A:Option Addr)(c:Nat)(bs:List UInt8):Prop:=Sl w 1 b8 A c bs
theorem clone8_any(A:Option Addr)(c:Nat)(xs:List UInt8)(w:World)(h:SlB w A c xs) :
 Calls Tryz.prog 109 #[.slice A xs.length c] w fun e w'=>∃ A' c',e=.returned (.slice A' xs.length c')∧OwnB w' w.heap.size (.slice A' xs.length c') xs∧Keep w w':=by
 have hn:=fun W:World=>Lib.run_eql_slice_nil W 31 5 A xs.length c 0 0 Tryz.underlying31;have hl:=h.len
 cases A with
 | none =>
   have hx:xs=[]:=by
    rcases xs with _ | ⟨y,r⟩
    ·rfl
    ·obtain ⟨_,_,hA,_⟩:=h.at_ 0 (by simp)
     cases hA
   subst hx;simp only [List.length_nil,Option.isNone_none] at hn ⊢;go_enter Tryz.func109,Tryz.ntmps109;go_wp2;go_ret;exact ⟨none,0,rfl,Own.nil_ _ _ _ _ _,Keep.refl _⟩
 | some ad =>
   have H:=lh h;clear h;go_enter Tryz.func109,Tryz.ntmps109;go_wp2_with (at_builtin;refine hold ?_);refine unhold ?_;have HO1:OwnB (w.alloc (.cells #[] 5)) w.heap.size (.slice (some ⟨w.heap.size,0,none⟩) 0 0) ([]:List UInt8):=World.ownsRow_made w #[] 0 (Nat.le_refl _) (by unfold maxLen;omega) rfl;refine wpList_app elt_u8 b8_len b8_one rfl (.tmp 5) (.tmp 6) rfl (ys:=xs) HO1 rfl rfl (H.out.keep (by repeat first|exact kp0|apply kp1|apply kp2|apply kp3|apply kp4)) (by simp;omega) (by simp) ?_;intro v1 w1 hown1 hg1 _;have ⟨a1,a2,a3⟩:=HO1.after (w:=w) hg1 (by repeat first|exact kp0|apply kp1|apply kp2|apply kp3|apply kp4) (Nat.le_refl _);clear hn a2 a3;go_wp2;go_ret;simp only [List.nil_append] at hown1;obtain ⟨A',c',hv⟩:=own_form hown1;exact ⟨A',c',by rw [← hv];rfl,by rw [← hv];exact hown1,a1⟩
def le(n:Nat):Nat→List UInt8
 | 0=>[]
 | k+1=>le n k++[UInt8.ofNat (n/256^k)]
theorem le_len(n:Nat):∀ k,(le n k).length=k
 | 0=>rfl
 | k+1=>by simp [le,le_len n k]
theorem u8_nat(n:Nat):((UInt8.ofNat n).toNat:Int)=(n:Int)%256:=by
 simp [UInt8.toNat_ofNat]
theorem fixed_any(A:Option Addr)(c:Nat)(xs:List UInt8)(n sz:Nat)(hn:n<18446744073709551616)(hsz:sz≤8)(w:World)(h:SlB w A c xs)(hl:xs.length≤140000000000000) :
 Calls Tryz.prog 65 #[.slice A xs.length c,.int .u64 n,.int .i64 sz] w fun e w'=>∃ v,e=.returned v∧OwnB w' w.heap.size v (xs++le n sz)∧Keep w w':=by
 have HC:=lh (clone8_any A c xs w h);clear h;go_enter Tryz.func65,Tryz.ntmps65;go_wp2_with (go_at_call 109;refine hold ?_);refine unhold ?_;refine HC.out.mono ?_;rintro e w1 ⟨A1,c1,rfl,hown1,hk1⟩;have HO:=lh hown1;have HK1:=lh hk1;clear hown1 hk1 HC;go_wp2;go_loopw [10,0,1] (fun vi vb vn wr=>∃ (k m:Nat) (o:Value),k≤sz∧m<18446744073709551616∧vi=.int .i64 k∧o=vb∧Hid (OwnB wr w.heap.size o (xs++le n k))∧vn=.int .u64 m∧Hid (m=n/256^k)∧Hid (Keep w wr)∧w.heap.size≤wr.heap.size) (fun vi _ _ _=>sz-(intOf vi).toNat)
 case atStart=>exact ⟨0,n,_,by omega,hn,rfl,rfl,(by show OwnB _ _ _ _;simp only [le,List.append_nil];exact HO.out),rfl,(by show _=_;simp),HK1.out,HK1.out.size⟩
 case round =>
  obtain ⟨k,m,o,hk,hm,rfl,rfl,HO2,rfl,HM,HK2,hz⟩:=hrel
  by_cases hlt:k<sz
  ·go_wp2_with (at_builtin;refine hold ?_);refine unhold ?_;have HO3:OwnB (wr.alloc (.cells #[.int .u8 ((m:Int)%256)] 5)) w.heap.size o (xs++le n k):=HO2.out.keep (Keep.alloc (Keep.refl _) _);refine wpList_app elt_u8 b8_len b8_one rfl (.tmp 12) (.tmp 15) rfl (ys:=[UInt8.ofNat m]) HO3 rfl rfl (sl_one _ (by omega) (by omega) (b8_at _ (by rw [u8_nat];simp [go_sem]))) (by simp [le_len];omega) (by simp;omega) ?_;intro v1 w2 hown2 hg2 _;have ⟨a1,a2,a3⟩:=HO3.after hg2 (HK2.out.trans (by repeat first|exact kp0|apply kp1|apply kp2|apply kp3|apply kp4)) (Nat.le_refl _);have HO4:=lh hown2;have HA1:=lh a1;clear hown2 hg2 HO3 a3;have hm2:m/256<18446744073709551616:=by omega
   go_wp2;go_roundw
   case rel=>exact ⟨k+1,m/256,_,by omega,hm2,by go_num,rfl,(by show OwnB _ _ _ _;have:=HO4.out;rw [HM.out,List.append_assoc] at this;exact this),by go_num,(by show _=_;rw [HM.out,Nat.div_div_eq_div_mul,Nat.pow_succ]),HA1.out,by simp at a2;omega⟩
   case measure=>simp [intOf];omega
  ·have hks:k=sz:=by omega
   subst hks;go_wp2;go_ret;exact ⟨_,rfl,HO2.out,HK2.out⟩
theorem app32_any(A:Option Addr)(c:Nat)(xs:List UInt8)(n:Nat)(hn:n<4294967296)(w:World)(h:SlB w A c xs)(hl:xs.length≤140000000000000) :
 Calls Tryz.prog 31 #[.slice A xs.length c,.int .u32 n] w fun e w'=>∃ v,e=.returned v∧OwnB w' w.heap.size v (xs++le n 4)∧Keep w w':=by
 have HF:=lh (fixed_any A c xs n 4 (by omega) (by omega) w h hl);clear h;go_enter Tryz.func31,Tryz.ntmps31;go_wp2_with (go_at_call 65;refine hold ?_);refine unhold ?_;refine HF.out.mono ?_;rintro e w1 ⟨v,rfl,hown,hk⟩;go_wp2;go_ret;exact ⟨v,rfl,hown,hk⟩
theorem app64_any(A:Option Addr)(c:Nat)(xs:List UInt8)(n:Nat)(hn:n<18446744073709551616)(w:World)(h:SlB w A c xs)(hl:xs.length≤140000000000000) :
 Calls Tryz.prog 164 #[.slice A xs.length c,.int .u64 n] w fun e w'=>∃ v,e=.returned v∧OwnB w' w.heap.size v (xs++le n 8)∧Keep w w':=by
 have HF:=lh (fixed_any A c xs n 8 hn (by omega) w h hl);clear h;go_enter Tryz.func164,Tryz.ntmps164;go_wp2_with (go_at_call 65;refine hold ?_);refine unhold ?_;refine HF.out.mono ?_;rintro e w1 ⟨v,rfl,hown,hk⟩;go_wp2;go_ret;exact ⟨v,rfl,hown,hk⟩
def vu:Nat→Nat→List UInt8
 | 0,n=>[UInt8.ofNat n]
 | f+1,n=>if 127<n then UInt8.ofNat (n%128+128) :: vu f (n/128) else [UInt8.ofNat n]
theorem vu_len:∀ f n,(vu f n).length≤f+1
 | 0,_=>by simp [vu]
 | f+1,n=>by
   have:=vu_len f (n/128);simp only [vu]
   split<;>simp<;>omega
theorem u8_or(n:Nat):bits .or .u8 ((n:Int)%256) 128=((UInt8.ofNat (n%128+128)).toNat:Int):=by
 rw [u8_nat];have h:∀ k:Fin 256,bits .or .u8 ((k.val:Nat):Int) 128=((k.val%128+128:Nat):Int)%256:=by decide +kernel
 have:=h ⟨n%256,Nat.mod_lt _ (by decide)⟩;simp only at this;rw [show ((n:Int)%256)=((n%256:Nat):Int) by omega,this];omega
theorem appUint_any(A:Option Addr)(c:Nat)(xs:List UInt8)(n:Nat)(hn:n<18446744073709551616)(w:World)(h:SlB w A c xs)(hl:xs.length≤140000000000000) :
 Calls Tryz.prog 165 #[.slice A xs.length c,.int .u64 n] w fun e w'=>∃ v,e=.returned v∧OwnB w' w.heap.size v (xs++vu 9 n)∧Keep w w':=by
 have HC:=lh (clone8_any A c xs w h);clear h;go_enter Tryz.func165,Tryz.ntmps165;go_wp2_with (go_at_call 109;refine hold ?_);refine unhold ?_;refine HC.out.mono ?_;rintro e w1 ⟨A1,c1,rfl,hown1,hk1⟩;have HO:=lh hown1;have HK1:=lh hk1;clear hown1 hk1 HC;go_wp2;go_loopw [0,1] (fun vb vn wr=>∃ (f m:Nat) (o:Value) (p:List UInt8),m<18446744073709551616∧o=vb∧vn=.int .u64 m∧Hid (OwnB wr w.heap.size o (xs++p))∧Hid (p++vu f m=vu 9 n)∧p.length+f=9∧Hid (m<128^(f+1))∧Hid (Keep w wr)∧w.heap.size≤wr.heap.size) (fun _ vn _=>(intOf vn).toNat)
 case atStart=>exact ⟨9,n,_,[],hn,rfl,rfl,(by show OwnB _ _ _ _;simp only [List.append_nil];exact HO.out),rfl,rfl,(by show _<_;omega),HK1.out,HK1.out.size⟩
 case round =>
  obtain ⟨f,m,o,p,hm,rfl,rfl,HO2,HP,hpl,HM,HK2,hz⟩:=hrel
  by_cases hgt:127<(m:Int)
  ·obtain ⟨f',rfl⟩:∃ f',f=f'+1:=⟨f-1,by
    rcases f with _|f
    ·have:=HM.out;omega
    ·rfl⟩
   have HP2:Hid ((p++[UInt8.ofNat (m%128+128)])++vu f' (m/128)=vu 9 n):=by
    show _=_;rw [← HP.out,vu,if_pos (by omega),List.append_assoc];rfl
   have HM2:Hid (m/128<128^(f'+1)):=by
    show _<_;have:=HM.out;rw [Nat.pow_succ] at this;exact Nat.div_lt_of_lt_mul (by rw [Nat.mul_comm];exact this)
   go_wp2_with (at_builtin;refine hold ?_);refine unhold ?_;have HO3:OwnB (wr.alloc (.cells #[.int .u8 (bits .or .u8 ((m:Int)%256) 128)] 5)) w.heap.size o (xs++p):=HO2.out.keep (Keep.alloc (Keep.refl _) _);refine wpList_app elt_u8 b8_len b8_one rfl (.tmp 11) (.tmp 15) rfl (ys:=[UInt8.ofNat (m%128+128)]) HO3 rfl rfl (sl_one _ (by omega) (by omega) (b8_at _ (by rw [← u8_or];simp [go_sem]))) (by simp;omega) (by simp;omega) ?_;intro v1 w2 hown2 hg2 _;have ⟨a1,a2,a3⟩:=HO3.after hg2 (HK2.out.trans (by repeat first|exact kp0|apply kp1|apply kp2|apply kp3|apply kp4)) (Nat.le_refl _);have HO4:=lh hown2;have HA1:=lh a1;clear hown2 hg2 HO3 a3;have hm2:m/128<18446744073709551616:=by omega
   go_wp2;go_roundw
   case rel=>exact ⟨f',m/128,_,_,hm2,rfl,by go_num,(by show OwnB _ _ _ _;have:=HO4.out;rw [List.append_assoc] at this;exact this),HP2,by simp;omega,HM2,HA1.out,by simp at a2;omega⟩
   case measure=>simp [intOf];omega
  ·have HP2:Hid (p++[UInt8.ofNat m]=vu 9 n):=by
    show _=_;rw [← HP.out]
    cases f
    ·rfl
    ·rw [vu,if_neg (by omega)]
   go_wp2_with (at_builtin;refine hold ?_);refine unhold ?_;have HO3:OwnB (wr.alloc (.cells #[.int .u8 (m:Int)] 5)) w.heap.size o (xs++p):=HO2.out.keep (Keep.alloc (Keep.refl _) _);refine wpList_app elt_u8 b8_len b8_one rfl (.tmp 17) (.tmp 20) rfl (ys:=[UInt8.ofNat m]) HO3 rfl rfl (sl_one _ (by omega) (by omega) (b8_at _ (by rw [u8_nat,show (m:Int)%256=m by omega];simp [go_sem]))) (by simp;omega) (by simp;omega) ?_;intro v1 w2 hown2 hg2 _;have ⟨a1,a2,a3⟩:=HO3.after hg2 (HK2.out.trans (by repeat first|exact kp0|apply kp1|apply kp2|apply kp3|apply kp4)) (Nat.le_refl _);have HO4:=lh hown2;have HA1:=lh a1;clear hown2 hg2 HO3 a3;go_wp2;go_ret;exact ⟨_,rfl,(by have:=HO4.out;rw [List.append_assoc,HP2.out] at this;exact this),HA1.out⟩
end Go.Proofs.YtpkocnpamcchcaaGreatDoor
namespace Go.Zone
open Go.RowKit
def Row(w:World)(g:Nat)(T:TypeId)(vs:List Value):Prop:=w.heap[g]? =some (.cells vs.toArray T (0,0))
section
variable {w w':World} {g:Nat} {T:TypeId} {vs:List Value}
theorem Row.lt(h:Row w g T vs):g<w.heap.size:=(Array.getElem?_eq_some_iff.1 h).1
theorem Row.cell(h:Row w g T vs)(j:Nat)(u:Value)(hu:vs[j]? =some u):w.cell? ⟨g,j,none⟩=some u:=by
 unfold Row at h;simp [World.cell?,h,hu]
theorem Row.soft(h:Row w g T vs)(j:Nat):w.frozen? ⟨g,j,none⟩=false:=by
 unfold Row at h;simp [World.frozen?,h]
theorem Row.set(h:Row w g T vs)(j:Nat)(u:Value):Row (w.setCell ⟨g,j,none⟩ u) g T (vs.set j u):=by
 unfold Row at h ⊢;simp only [World.setCell,Array.getElem?_modify,h,if_true,Option.map_some,Option.isSome_none,Bool.false_eq_true,if_false];simp
theorem Row.other(h:Row w g T vs){b:Nat}(j:Nat)(u:Value)(hb:b≠g):Row (w.setCell ⟨b,j,none⟩ u) g T vs:=by
 unfold Row at h ⊢;simp only [World.setCell,Array.getElem?_modify,if_neg hb,h]
theorem row_alloc(w:World)(T:TypeId)(vs:List Value):Row (w.alloc (.cells vs.toArray T)) w.heap.size T vs:=by
 unfold Row World.alloc;simp
theorem Row.keep(h:Row w g T vs)(hk:Keep w w'):Row w' g T vs:=(hk.block g h.lt).trans h
end
theorem row_ne{w:World}{a b:Nat}{T T':TypeId}{vs us:List Value}(h:Row w a T vs)(k:Row w b T' us)(ht:T≠T'):a≠b:=fun e=>by
 subst e;unfold Row at h k;rw [h] at k;simp at k;exact ht k.2
def allocs(w:World):List Obj→World
 | []=>w
 | o :: r=>allocs (w.alloc o) r
theorem allocs_keep:∀ (l:List Obj) (w:World),Keep w (allocs w l)
 | [],w=>Keep.refl w
 | o :: r,w=>((Keep.refl w).alloc o).trans (allocs_keep r (w.alloc o))
theorem allocs_at:∀ (l:List Obj) (w:World) (i:Nat) (o:Obj),l[i]? =some o→(allocs w l).heap[w.heap.size+i]? =some o
 | [],_,_,_,h=>by cases h
 | x :: r,w,0,o,h=>by
   simp only [List.getElem?_cons_zero,Option.some.injEq] at h;subst h;have h1:(w.alloc x).heap[w.heap.size]? =some x:=by unfold World.alloc;simp
   exact ((allocs_keep r (w.alloc x)).block w.heap.size (by simp)).trans h1
 | x :: r,w,i+1,o,h=>by
   have:=allocs_at r (w.alloc x) i o (by simpa using h);rw [World.size_alloc] at this;rw [show w.heap.size+(i+1)=w.heap.size+1+i by omega];exact this
structure Turn(w w':World)(S:List Nat):Prop where
 os:w'.os=w.os
 tape:w'.tape=w.tape
 output:w'.output=w.output
 size:w.heap.size≤w'.heap.size
 block:∀ i,i<w.heap.size→i∉S→w'.heap[i]? =w.heap[i]?
section
variable {w w1 w2 w3:World} {S S':List Nat} {g:Nat} {T:TypeId} {vs:List Value}
theorem Turn.refl(w:World)(S:List Nat):Turn w w S:=⟨rfl,rfl,rfl,Nat.le_refl _,fun _ _ _=>rfl⟩
theorem Turn.keep(h:Keep w1 w2)(S:List Nat):Turn w1 w2 S:=⟨h.os,h.tape,h.output,h.size,fun i hi _=>h.block i hi⟩
theorem Turn.trans(h:Turn w1 w2 S)(k:Turn w2 w3 S):Turn w1 w3 S :=
 ⟨k.os.trans h.os,k.tape.trans h.tape,k.output.trans h.output,Nat.le_trans h.size k.size,fun i hi hs=>(k.block i (Nat.lt_of_lt_of_le hi h.size) hs).trans (h.block i hi hs)⟩
theorem Turn.mono(h:Turn w1 w2 S)(hs:∀ i,i∈S→i∈S'∨w1.heap.size≤i):Turn w1 w2 S' :=
 ⟨h.os,h.tape,h.output,h.size,fun i hi hn=>h.block i hi fun hm=>by rcases hs i hm with h1|h1;exact hn h1;omega⟩
theorem Turn.trans_up(h:Turn w1 w2 S)(k:Turn w2 w3 S')(hs:∀ i∈S',w1.heap.size≤i):Turn w1 w3 S :=
 ⟨k.os.trans h.os,k.tape.trans h.tape,k.output.trans h.output,Nat.le_trans h.size k.size,fun i hi hn=>(k.block i (Nat.lt_of_lt_of_le hi h.size) (fun hm=>by have:=hs i hm;omega)).trans (h.block i hi hn)⟩
theorem Turn.row(h:Turn w1 w2 S)(r:Row w1 g T vs)(hg:g∉S):Row w2 g T vs:=(h.block g r.lt hg).trans r
theorem Turn.set(w:World)(a:Addr)(u:Value):Turn w (w.setCell a u) [a.block] :=
 ⟨rfl,rfl,rfl,by simp,fun i _ hi=>by simp only [World.setCell,Array.getElem?_modify];rw [if_neg (fun e=>hi (by simp [e]))]⟩
theorem Turn.after(h:Keep w w1)(k:Turn w1 w2 S)(hs:∀ i∈S,w.heap.size≤i):Keep w w2 :=
 ⟨k.os.trans h.os,k.tape.trans h.tape,k.output.trans h.output,Nat.le_trans h.size k.size,fun i hi=>(k.block i (Nat.lt_of_lt_of_le hi h.size) (fun hm=>by have:=hs i hm;omega)).trans (h.block i hi)⟩
end
theorem Own.turn{α:Type}{w w':World}{base k:Nat}{e:TypeId}{enc:α→List Value}{v:Value}{xs:List α}{S:List Nat}(h:Own w base e k enc v xs)(ht:Turn w w' S)(hs:∀ i∈S,v.ownBlock≠some i):Own w' base e k enc v xs:=by
 refine ⟨h.1,?_⟩
 rcases h.2 with hn | ⟨g,cap,cur,rfl,hb,hg,rest⟩
 ·exact .inl hn
 ·exact .inr ⟨g,cap,cur,rfl,hb,(ht.block g (Array.getElem?_eq_some_iff.1 hg).1 (fun hm=>hs g hm rfl)).trans hg,rest⟩
theorem own_row_ne{α:Type}{w:World}{base k b:Nat}{e T:TypeId}{enc:α→List Value}{v:Value}{xs:List α}{vs:List Value}(h:Own w base e k enc v xs)(hr:Row w b T vs)(ht:T≠e):v.ownBlock≠some b:=by
 intro hb
 rcases h.2 with ⟨rfl,_⟩ | ⟨g,cap,cur,rfl,_,hg,_⟩
 ·cases hb
 ·have hq:g=b:=by simpa [Value.ownBlock] using hb
  subst hq;unfold Row at hr;rw [hr] at hg;simp at hg;exact ht hg.2
theorem hold_at(d:Nat){P:Program}{ops:Array Oper}{Q:Exit→Act→World→Prop}{rest:List Oper}{a:Act}{w:World}{op:Op}{ty:TypeId}{pos:String}{af:Array Edge}{gd:Option (Nat × Bool)}(h:Hid (wpList P ops Q (⟨some d,op,ty,pos,af,gd⟩ :: rest) a w)):wpList P ops Q (⟨some d,op,ty,pos,af,gd⟩ :: rest) a w:=h
theorem Row.sl_blk{α:Type}{w:World}{g k:Nat}{T:TypeId}{enc:α→List Value}{xs:List α}(hk:∀ x,(enc x).length=k)(h:Row w g T (xs.flatMap enc))(hl:xs.length≤140737488355328){c:Nat}(hc:xs.length≤c)(hc2:c≤9223372036854775807):Sl w k enc (some ⟨g,0,none⟩) c xs :=
 ⟨hc,hc2,hl,fun i hi=>⟨g,0,rfl,fun j u hu=>by
  have:=flat_get hk xs i j hi u hu
  simpa using h.cell _ u this⟩⟩
section
variable {α:Type} {w w':World} {base g n c:Nat} {e:TypeId} {enc:α→List Value} {f:α→Value} {xs:List α}
theorem flat1(hf:∀ x,enc x=[f x])(xs:List α):xs.flatMap enc=xs.map f:=by
 induction xs with
 | nil=>rfl
 | cons x r ih=>simp [hf,ih]
theorem Own.cell1(hf:∀ x,enc x=[f x])(h:Own w base e 1 enc (.slice (some ⟨g,0,none⟩) n c) xs)(hn:n=xs.length)(j:Nat)(hj:j<xs.length) :
 w.cell? ⟨g,j,none⟩=some (f xs[j])∧w.frozen? ⟨g,j,none⟩=false∧g<w.heap.size∧base≤g:=by
 rcases h.2 with ⟨h',_⟩ | ⟨g',cap',cur,h',hb,hg,hnc,hcm,hcs,htake⟩
 ·simp at h'
 ·simp only [Value.slice.injEq,Option.some.injEq,Addr.mk.injEq,and_true,true_and] at h';obtain ⟨rfl,_,_⟩:=h';refine ⟨?_,by simp [World.frozen?,hg],(Array.getElem?_eq_some_iff.1 hg).1,hb⟩;have h1:(xs.flatMap enc)[j]? =some (f xs[j]):=by rw [flat1 hf];simp [hj]
  rw [← htake,List.getElem?_take,if_pos (by omega)] at h1;simp only [World.cell?,hg,Option.isSome_none,Bool.false_eq_true,if_false]
  simpa using h1
theorem Own.set1(hf:∀ x,enc x=[f x])(h:Own w base e 1 enc (.slice (some ⟨g,0,none⟩) n c) xs)(hn:n=xs.length)(j:Nat)(x:α){u:Value}(hu:u=f x) :
 Own (w.setCell ⟨g,j,none⟩ u) base e 1 enc (.slice (some ⟨g,0,none⟩) n c) (xs.set j x):=by
 subst hn;subst hu;have:=(World.ownsRow.stored h j (f x)).1;unfold Zone.Own;rw [List.length_set,flat1 hf,List.map_set,← flat1 hf];exact this
theorem own_made1{P:Program}{t:TypeId}{i:TypeInfo}{z:α}(hf:∀ x,enc x=[f x])(hone:(f z).cells=#[f z])(ht:P.underlying t=some (.slice e))(hi:P.info? e=some i)(h1:i.zero=some (f z))(h2:i.size=1)(n base:Nat)(W:World)(hn:i.bytes*n≤281474976710656)(hm:n≤9223372036854775807)(hb:base≤W.heap.size) :
 ∃ W',(Instr.makeSlice t (.int .i64 (n:Int)) (.int .i64 (n:Int))).run P W=.ok (.slice (some ⟨W.heap.size,0,none⟩) n n) W'∧Own W' base e 1 enc (.slice (some ⟨W.heap.size,0,none⟩) n n) (List.replicate n z)∧Keep W W':=by
 obtain ⟨W',hr,ho,hg⟩:=run_make_full (P:=P) W base t e i (f z) 1 ht hi h1 h2 .i64 .i64 n hn (by unfold maxLen;omega) hb;refine ⟨W',hr,?_,⟨hg.os,hg.tape,hg.output,hg.size,fun k hk=>hg.block k hk (by simp)⟩⟩;unfold Zone.Own;rw [List.length_replicate,flat1 hf];have e1:(madeCells (f z).cells (n*1)).toList=(List.replicate n z).map f:=by
  apply List.ext_getElem
  ·simp [madeCells]
  ·intro i h1 h2;simp [madeCells,hone,Nat.mod_one]
 rw [e1] at ho;exact ho
end
end Go.Zone
namespace Go.Proofs.YtpkocnpamcchcaaGreatDoor
open Go.RowKit Go.Zone Go.Shelf
attribute [local go_sem] zone stepZ fill lookFs goes goesUpon dropFs cell_gro frozen_gro size_gro lt_add drew_gro tape_gro keep_refl
attribute [local go_sem] lt_add2 lt_add3 lt_add4 lt_add5 lt_add6 lt_add7 lt_add8 lt_add9 lt_add10 lt_add11 lt_add12
structure Rw where
 A:Option Addr
 c:Nat
 vs:List Val
def Rw.cells(r:Rw):List Value:=[.slice r.A r.vs.length r.c]
theorem rw_f(r:Rw):r.cells=[.slice r.A r.vs.length r.c]:=rfl
def RowsAt(w:World)(l:List Rw):Prop:=∀ r∈l,Sl w 3 Val.cells r.A r.c r.vs
theorem RowsAt.keep{w w':World}{l:List Rw}(h:RowsAt w l)(hk:Keep w w'):RowsAt w' l:=fun r hr=>(h r hr).keep hk
theorem sl_rw{w:World}{c:Nat}{A:Option Addr}{xs:List Rw}(h:Sl w 1 Rw.cells A c xs)(i:Nat)(hi:i<xs.length):∃ b off,A=some ⟨b,off,none⟩∧b<w.heap.size∧w.cell? ⟨b,off+i,none⟩=some (.slice xs[i].A xs[i].vs.length xs[i].c):=by
 obtain ⟨b,off,hA,hc⟩:=h.at_ i hi;have h0:=hc 0 _ rfl;rw [Nat.mul_one,Nat.add_zero] at h0;exact ⟨b,off,hA,World.block_lt_of_cell? w _ h0,h0⟩
theorem getD_lt{α:Type}(l:List α)(i:Nat)(d:α)(h:i<l.length):l.getD i d=l[i]:=by simp [h]
def kindT(c:Col):Int:=if c.kind=2 then 2 else 1
def badRow(cs:List Col)(r:List Val):Bool:=(r.length != cs.length)||r.any noMay
def oddTo(cs:List Col)(r:List Val)(k:Nat):Bool:=(List.range k).any fun i=>(r.getD i default).k != kindT (cs.getD i default)
def oddRow(cs:List Col)(r:List Val):Bool:=oddTo cs r r.length
noncomputable def tErr(cs:List Col)(rows:List (List Val)):Int:=if pB (MayP cs)=false then 2 else if rows.any (badRow cs) then 2 else if 16777216<rows.length then 3 else if rows.any (oddRow cs) then 9 else 0
theorem tkind_any(c:Col)(w:World):Calls Tryz.prog 103 #[c.v] w fun e w'=>e=.returned (.int .u8 (kindT c))∧Keep w w':=by
 obtain ⟨k,n⟩:=c;simp only [Col.v,kindT];go_enter Tryz.func103,Tryz.ntmps103;go_wp2
 all_goals go_ret
 all_goals exact ⟨by simp_all,(by repeat first|exact kp0|apply kp1|apply kp2|apply kp3|apply kp4)⟩
theorem oddTo_succ(cs:List Col)(r:List Val)(k:Nat):oddTo cs r (k+1)=(oddTo cs r k||((r.getD k default).k != kindT (cs.getD k default))):=by
 simp [oddTo,List.range_succ]
theorem any_take_succ{α:Type}(p:α→Bool)(l:List α)(k:Nat)(h:k<l.length):(l.take (k+1)).any p=((l.take k).any p||p l[k]):=by
 rw [List.take_succ_eq_append_getElem h,List.any_append,List.any_cons,List.any_nil,Bool.or_false]
theorem tmay_any(A B:Option Addr)(n m:Nat)(cs:List Col)(rows:List Rw)(w:World)(h:Sl w 2 Col.cells A n cs)(hz:∀ x∈cs,x.name.size≤140737488355328)(hr:Sl w 1 Rw.cells B m rows)(hs:RowsAt w rows) :
 Calls Tryz.prog 59 #[.slice A cs.length n,.slice B rows.length m] w fun e w'=>e=.returned (.int .i64 (tErr cs (rows.map (·.vs))))∧Keep w w':=by
 have HM:=lh (smay_any A n cs w h hz);have hl:=sl_len h;have hl2:=sl_len hr
 cases hq:pB (MayP cs)
 ·have HE:=lh (show tErr cs (rows.map (·.vs))=2 by unfold tErr;rw [if_pos hq]);rw [hq] at HM;clear h hr hs hq;go_enter Tryz.func59,Tryz.ntmps59;go_wp2_with (go_at_call 99;refine (HM.out).mono ?_;rintro e w' ⟨rfl,hk⟩;(first|obtain ⟨p,rfl⟩:=Zone.gro_of_gro _ _ hk|obtain ⟨p,rfl⟩:=Zone.gro_of_below _ hk);clear hk);go_ret;exact ⟨ret_int HE.out.symm,(by repeat first|exact kp0|apply kp1|apply kp2|apply kp3|apply kp4)⟩
 ·have HE:=lh (show tErr cs (rows.map (·.vs))=if rows.any (fun r=>badRow cs r.vs) then 2 else if 16777216<rows.length then 3 else if rows.any (fun r=>oddRow cs r.vs) then 9 else 0 by
   unfold tErr;rw [if_neg (by rw [hq];decide),List.any_map,List.any_map,List.length_map];rfl)
  rw [hq] at HM;have HC:=lh h;have HR:=lh hr;have HS:=lh hs;clear h hr hs hq;go_enter Tryz.func59,Tryz.ntmps59;go_wp2_with (go_at_call 99;refine (HM.out).mono ?_;rintro e w' ⟨rfl,hk⟩;(first|obtain ⟨p,rfl⟩:=Zone.gro_of_gro _ _ hk|obtain ⟨p,rfl⟩:=Zone.gro_of_below _ hk);clear hk);go_loopw [5,15] (fun o i wr=>∃ (k:Nat) (ob:Bool),k≤rows.length∧i=.int .i64 k∧o=.bool ob∧Hid (ob=(rows.take k).any (fun r=>oddRow cs r.vs))∧Hid ((rows.take k).any (fun r=>badRow cs r.vs)=false)∧Hid (Keep w wr)) (fun _ i _=>rows.length-(intOf i).toNat)
  case atStart=>exact ⟨0,false,Nat.zero_le _,rfl,rfl,(by show _=_;simp),(by show _=_;simp),(by repeat first|exact kp0|apply kp1|apply kp2|apply kp3|apply kp4)⟩
  case round =>
   obtain ⟨k,ob,hk,rfl,rfl,HOB,HBD,HK⟩:=hrel
   by_cases hlt:k<rows.length
   ·obtain ⟨b,off,hA,hb,h0⟩:=sl_rw (HR.out.keep HK.out) k hlt;have HSR:=lh (HS.out rows[k] (List.getElem_mem hlt));have HT:=lh (any_take_succ (fun r:Rw=>oddRow cs r.vs) rows k hlt);have HT2:=lh (any_take_succ (fun r:Rw=>badRow cs r.vs) rows k hlt);have HBR:=lh (show badRow cs rows[k].vs=true→rows.any (fun r=>badRow cs r.vs)=true from fun h=>List.any_eq_true.2 ⟨rows[k],List.getElem_mem hlt,h⟩);subst hA;generalize rows[k]=r at h0 HSR HT HT2 HBR;obtain ⟨rA,rc,vs⟩:=r;simp only at h0 HSR HT HT2 HBR
    by_cases hln:vs.length=cs.length
    ·have hd:((vs.length:Int) != (cs.length:Int))=false:=by simp [hln]
     have HLN:=lh hln;clear hln;go_wp2;go_loopw [5,26] (fun o i wr=>∃ (j:Nat) (o2:Bool),j≤vs.length∧i=.int .i64 j∧o=.bool o2∧Hid (o2=(ob||oddTo cs vs j))∧Hid ((vs.take j).any noMay=false)∧Hid (Keep w wr)) (fun _ i _=>vs.length-(intOf i).toNat)
     case atStart=>exact ⟨0,ob,Nat.zero_le _,rfl,rfl,(by show _=_;simp [oddTo]),(by show _=_;simp),HK.out⟩
     case round =>
         rename Bool=>ob1;obtain ⟨j,o2,hj,rfl,rfl,HO2,HN2,HK2⟩:=hrel
         by_cases hjt:j<vs.length
         ·obtain ⟨b2,off2,hA2,hb2,c0,c1,c2⟩:=sl_val (HSR.out.keep HK2.out) j hjt;obtain ⟨b3,off3,hA3,hb3,d0,d1⟩:=sl_col (HC.out.keep HK2.out) j (by rw [← HLN.out];exact hjt);have hjt2:j<cs.length:=by rw [← HLN.out];exact hjt
          have HT3:=lh (any_take_succ noMay vs j hjt);have HT4:=lh (show noMay vs[j]=true→vs.any noMay=true from fun h=>List.any_eq_true.2 ⟨vs[j],List.getElem_mem hjt,h⟩);have HT5:=lh (show oddTo cs vs (j+1)=(oddTo cs vs j||(vs[j].k != kindT cs[j])) by
           rw [oddTo_succ,getD_lt _ _ _ hjt,getD_lt _ _ _ hjt2])
          subst hA2;subst hA3;generalize vs[j]=x at c0 c1 c2 HT3 HT4 HT5;generalize cs[j]=cl at d0 d1 HT5;obtain ⟨xk,xn,xs⟩:=x;obtain ⟨cn,ck⟩:=cl;simp only at c0 c1 c2 d0 d1 HT5;have HMV:=lh (may_any ⟨xk,xn,xs⟩);have HTK:=lh (tkind_any ⟨cn,ck⟩)
          cases hmv:mayV ⟨xk,xn,xs⟩
          ·rw [hmv] at HMV;have HMV2:=lh hmv;clear hmv;go_wp2_with (go_at_call 102;refine (HMV.out _).mono ?_;rintro e w' ⟨rfl,hk⟩;(first|obtain ⟨p,rfl⟩:=Zone.gro_of_gro _ _ hk|obtain ⟨p,rfl⟩:=Zone.gro_of_below _ hk);clear hk);go_ret;exact ⟨ret_int (by rw [HE.out,if_pos (HBR.out (by simp [badRow,HT4.out (by simp [noMay,HMV2.out])]))]),HK2.out.trans (by repeat first|exact kp0|apply kp1|apply kp2|apply kp3|apply kp4)⟩
          ·rw [hmv] at HMV;have HMV2:=lh hmv;clear hmv;generalize kindT ⟨cn,ck⟩=kt at HTK HT5
           cases o2
           ·go_upto_region 14 with (go_at_call 102;refine (HMV.out _).mono ?_;rintro e w' ⟨rfl,hk⟩;(first|obtain ⟨p,rfl⟩:=Zone.gro_of_gro _ _ hk|obtain ⟨p,rfl⟩:=Zone.gro_of_below _ hk);clear hk);go_region_with (go_at_call 103;refine (HTK.out _).mono ?_;rintro e w' ⟨rfl,hk⟩;(first|obtain ⟨p,rfl⟩:=Zone.gro_of_gro _ _ hk|obtain ⟨p,rfl⟩:=Zone.gro_of_below _ hk);clear hk)
            all_goals
             go_wp2;go_roundw
             case rel=>exact ⟨j+1,_,by omega,by go_num,rfl,(by show _=_;rw [HT5.out,← Bool.or_assoc,← HO2.out];simp),(by show _=_;rw [HT3.out,HN2.out];simp [noMay,HMV2.out]),HK2.out.trans (by repeat first|exact kp0|apply kp1|apply kp2|apply kp3|apply kp4)⟩
             case measure=>simp [intOf];omega
           ·go_upto_region 14 with (go_at_call 102;refine (HMV.out _).mono ?_;rintro e w' ⟨rfl,hk⟩;(first|obtain ⟨p,rfl⟩:=Zone.gro_of_gro _ _ hk|obtain ⟨p,rfl⟩:=Zone.gro_of_below _ hk);clear hk);go_region
            all_goals
             go_wp2;go_roundw
             case rel=>exact ⟨j+1,_,by omega,by go_num,rfl,(by show _=_;rw [HT5.out,← Bool.or_assoc,← HO2.out];simp),(by show _=_;rw [HT3.out,HN2.out];simp [noMay,HMV2.out]),HK2.out.trans (by repeat first|exact kp0|apply kp1|apply kp2|apply kp3|apply kp4)⟩
             case measure=>simp [intOf];omega
         ·have hjl:j=vs.length:=by omega
          subst hjl;rw [List.take_length] at HN2;go_wp2;go_roundw
          case rel=>exact ⟨k+1,o2,by omega,by go_num,rfl,(by show _=_;rw [HT.out,HO2.out,HOB.out];rfl),(by show _=_;rw [HT2.out,HBD.out];simp [badRow,HN2.out,HLN.out]),HK2.out⟩
          case measure=>simp [intOf];omega
    ·have hd:((vs.length:Int) != (cs.length:Int))=true:=by simp;omega
     go_wp2;go_ret;exact ⟨ret_int (by rw [HE.out,if_pos (HBR.out (by simp [badRow,hln]))]),HK.out⟩
   ·have hkl:k=rows.length:=by omega
    subst hkl;rw [List.take_length] at HOB HBD
    by_cases hl16:16777216<rows.length
    ·have hd:decide ((16777216:Int)<(rows.length:Int))=true:=by simp;omega
     have hl16':(16777216:Int)<(rows.length:Int):=by omega
     go_wp2;go_ret;exact ⟨ret_int (by rw [HE.out,HBD.out,if_neg (by decide),if_pos hl16]),HK.out⟩
    ·have hd:decide ((16777216:Int)<(rows.length:Int))=false:=by simp;omega
     cases ob
     ·go_wp2;go_ret;exact ⟨ret_int (by rw [HE.out,HBD.out,if_neg (by decide),if_neg hl16,← HOB.out,if_neg (by decide)]),HK.out⟩
     ·go_wp2;go_ret;exact ⟨ret_int (by rw [HE.out,HBD.out,if_neg (by decide),if_neg hl16,← HOB.out,if_pos rfl]),HK.out⟩
end Go.Proofs.YtpkocnpamcchcaaGreatDoor
namespace Go.Proofs.YtpkocnpamcchcaaGreatDoor
open Go.RowKit Go.Zone Go.ChangeShapes Go.WideShapes Go.Deep Go.Joins Go.ChangeMaps
section
variable {H:Type} {enc:TypeId × Value→H} {w:World} {held:Bool}
theorem spot_none{a:Addr}{v:Value}(h:w.cell? a=some v):a.spot=none:=by
 unfold World.cell? at h
 split at h
 ·split at h
  ·cases h
  ·rename_i hq;simpa using hq
 ·cases h
theorem add_spot{a:Addr}(h:a.spot=none)(n:Nat):a.add n=⟨a.block,a.off+n,none⟩:=by
 obtain ⟨ab,ao,asp⟩:=a;simp only at h;subst h;unfold Addr.add
 split
 ·rename_i h;subst h;rfl
 ·rfl
theorem sl_vals{v:Value}{d:DataW H}{ps:List MemPlace}{fuel:Nat}(hf:DataW.trod enc Tryz.prog w 0 (fun _=>true) held fuel 56 [v]=some (d,ps))(hz:∀ n∈d.weights Tryz.prog 56,n≤reachBytes) :
 ∃ A c xs,v=.slice A xs.length c∧Sl w 3 Val.cells A c xs∧∀ x∈xs,WfV x:=by
 obtain ⟨f0,f1,f2,hs,hone,t0,t1,t2⟩:=u_val;have hrb:=reachBytes_lt
 rcases open_slice_fields u_vals hs hone c_val hf with ⟨h0,_⟩ | ⟨a,len,cap,m,D,Pl,h0,hb',hl,hm,hmm,hx,hi⟩
 ·simp only [List.cons.injEq,and_true] at h0;exact ⟨none,0,[],h0,Sl.nil_ _ (by omega),fun _ h=>by cases h⟩
 ·simp only [List.cons.injEq,and_true] at h0;simp only [Prod.mk.injEq] at hx;obtain ⟨xs,hxl,hxs⟩:=choose_list (Q:=fun i (x:Val)=>WfV x∧w.cell? (a.add (i*3))=some (.int .u8 x.k)∧w.cell? (a.add (i*3+1))=some (.int .i64 x.n)∧w.cell? (a.add (i*3+2))=some (.string x.s)) len fun i hil=>by
   obtain ⟨ys,n,_,_,_,hff⟩:=hi i (by rw [hmm];split<;>omega);obtain ⟨v0,y0,c0,_,r0⟩:=hff 0 f0 rfl;obtain ⟨v1,y1,c1,_,r1⟩:=hff 1 f1 rfl;obtain ⟨v2,y2,c2,_,r2⟩:=hff 2 f2 rfl;obtain ⟨k,e0,_,wk⟩:=DataW.trod_int t0 r0;obtain ⟨n',e1,_,wn⟩:=DataW.trod_int t1 r1;obtain ⟨s,e2,_,ws⟩:=DataW.trod_string t2 r2
   cases e0;cases e1;cases e2
   exact ⟨⟨k,n',s⟩,⟨wk,wn,ws⟩,c0,c1,c2⟩
  have hw2:len*Tryz.prog.bytesOf 72≤reachBytes:=by
   have:=hz ((len+(m-len))*Tryz.prog.bytesOf 72) (by rw [hx.1];simp [DataW.weights,u_vals]);exact Nat.le_trans (Nat.mul_le_mul_right _ (by omega)) this
  rw [show Tryz.prog.bytesOf 72=32 by kernel_rfl] at hw2;subst hxl;refine ⟨some a,cap,xs,h0,⟨hl,by unfold maxLen at hm;omega,by omega,fun i hil=>?_⟩,fun x hx=>?_⟩
  ·obtain ⟨_,c0,c1,c2⟩:=hxs i hil;have hsp:a.spot=none:=by
    obtain ⟨_,d0,_,_⟩:=hxs 0 (by omega);simp only [Nat.zero_mul,Addr.add,if_true] at d0;exact spot_none d0
   rw [add_spot hsp] at c0 c1 c2;refine ⟨a.block,a.off,by obtain ⟨ab,ao,asp⟩:=a;simp only at hsp;subst hsp;rfl,fun j u hu=>?_⟩
   match j,hu with
   | 0,hu=>cases hu;exact c0
   | 1,hu=>cases hu;exact c1
   | 2,hu=>cases hu;exact c2
  ·obtain ⟨i,hil,rfl⟩:=List.getElem_of_mem hx;exact (hxs i hil).1
theorem u_rows:Tryz.prog.underlying 27=some (.slice 56):=by kernel_rfl
theorem c_row:Tryz.prog.cellsOf 56=1:=by kernel_rfl
theorem open_rows{b0:Nat}{r:Reach}{v:Value}{d:DataW H}{ps:List MemPlace}(hv:Value.okWide Tryz.prog w r b0 27 v)(h:DataW.Trod enc Tryz.prog w 0 (fun _=>true) held 27 v d ps)
 (hz:∀ n∈d.weights Tryz.prog 27,n≤reachBytes) :
 ∃ A c rows,v=.slice A rows.length c∧Sl w 1 Rw.cells A c rows∧RowsAt w rows∧∀ r∈rows,∀ x∈r.vs,WfV x:=by
 have hrb:=reachBytes_lt;obtain ⟨fuel,hf⟩:=h;have hcs:v.cells.toList=[v]:=by
  simp only [Value.okWide,u_rows] at hv
  cases v<;>simp_all [Cell.okWide,Cell.ok,u_rows,Value.cells]
 rw [hcs] at hf
 rcases open_slice u_rows hf with ⟨h0,_⟩ | ⟨a,len,cap,m,n,D,Pl,h0,hb',hl,hm,hmm,hx,hi⟩
 ·simp only [List.cons.injEq,and_true] at h0;exact ⟨none,0,[],h0,Sl.nil_ _ (by omega),fun _ h=>(by cases h),fun _ h=>by cases h⟩
 ·simp only [List.cons.injEq,and_true] at h0;have hd:d=.slice ((List.range len).map D) ((List.range (m-len)).map fun j=>D (len+j)):=(Prod.mk.inj hx).1;have hw1:∀ i,i<len→∀ n∈(D i).weights Tryz.prog 56,n≤reachBytes:=fun i hi n hn=>hz n (by
   rw [hd];simp only [DataW.weights,u_rows,List.mem_cons,List.mem_append];exact .inr (.inl (weights_all (List.mem_map.2 ⟨i,List.mem_range.2 hi,rfl⟩) hn)))
  have hw2:len*Tryz.prog.bytesOf 56≤reachBytes:=by
   have:=hz ((len+(m-len))*Tryz.prog.bytesOf 56) (by rw [hd];simp [DataW.weights,u_rows]);exact Nat.le_trans (Nat.mul_le_mul_right _ (by omega)) this
  rw [show Tryz.prog.bytesOf 56=24 by kernel_rfl] at hw2;obtain ⟨rows,hkl,hks⟩:=choose_list (Q:=fun i (q:Rw)=>w.cell? (a.add i)=some (.slice q.A q.vs.length q.c)∧Sl w 3 Val.cells q.A q.c q.vs∧∀ x∈q.vs,WfV x) len fun i hil=>by
   obtain ⟨cs',hc,ht⟩:=hi i (by rw [hmm];split<;>omega);rw [c_row] at hc;obtain ⟨_,hcl,hat⟩:=World.cells?_some hc
   match cs',hcl with
   | [u],_ =>
     obtain ⟨A,c,xs,rfl,hs,hwf⟩:=sl_vals (d:=D i) (ps:=Pl i) ht (hw1 i hil);refine ⟨⟨A,c,xs⟩,?_,hs,hwf⟩;have h1:=hat 0 (by omega);rw [Nat.mul_one,Go.Deep.add_add,Nat.add_zero] at h1;exact h1
  subst hkl;refine ⟨some a,cap,rows,h0,⟨hl,by unfold maxLen at hm;omega,by omega,fun i hil=>?_⟩,fun q hq=>?_,fun q hq=>?_⟩
  ·have hsp:a.spot=none:=by
    have:=(hks 0 (by omega)).1;simp only [Addr.add,if_true] at this;exact spot_none this
   refine ⟨a.block,a.off,by obtain ⟨ab,ao,asp⟩:=a;simp only at hsp;subst hsp;rfl,fun j u hu=>?_⟩;have:=(hks i hil).1;rw [add_spot hsp] at this
   match j,hu with
   | 0,hu=>cases hu;rw [Nat.mul_one,Nat.add_zero];exact this
  ·obtain ⟨i,hil,rfl⟩:=List.getElem_of_mem hq;exact (hks i hil).2.1
  ·obtain ⟨i,hil,rfl⟩:=List.getElem_of_mem hq;exact (hks i hil).2.2
end
end Go.Proofs.YtpkocnpamcchcaaGreatDoor
