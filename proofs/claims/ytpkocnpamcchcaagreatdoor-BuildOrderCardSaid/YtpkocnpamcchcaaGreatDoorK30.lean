/- Parts of the proof. -/
import Derived.Test.YtpkocnpamcchcaaGreatDoorK29
set_option maxRecDepth 100000
set_option maxHeartbeats 4000000
set_option linter.unusedSimpArgs false
set_option linter.unusedVariables false
set_option linter.unnecessarySimpa false
namespace Go.Proofs.YtpkocnpamcchcaaGreatDoor
open Go.RowKit Go.Zone Go.Shelf
attribute [local go_sem] zone stepZ fill lookFs goes goesUpon dropFs cell_gro frozen_gro size_gro lt_add drew_gro tape_gro keep_refl
attribute [local go_sem] lt_add2 lt_add3 lt_add4 lt_add5 lt_add6 lt_add7 lt_add8 lt_add9 lt_add10 lt_add11 lt_add12
def cmpN(x y:Int):Int:=if x<y then -1 else if y<x then 1 else 0
theorem vcmpI_any(x y:Int)(w:World):Calls Tryz.prog 181 #[.int .i64 x,.int .i64 y] w fun e w'=>e=.returned (.int .i64 (cmpN x y))∧w=w':=by
 have hn:∀ (x:Int) (W:World),Calls Tryz.prog 222 #[.int .i64 x] W fun e w'=>e=.returned (.bool false)∧W=w':=fun x W=>by
  go_enter Tryz.func222,Tryz.ntmps222;go_wp2;go_ret;exact ⟨by simp,rfl⟩
 have HN:=lh hn;clear hn;unfold cmpN
 rcases Int.lt_trichotomy x y with h|h|h
 ·rw [if_pos h];go_enter Tryz.func181,Tryz.ntmps181;go_wp2_with (go_at_call 222;refine (HN.out _ _).mono ?_;rintro e w' ⟨rfl,rfl⟩);go_ret;exact ⟨rfl,rfl⟩
 ·have h1:¬ x<y:=by omega
  have h2:¬ y<x:=by omega
  rw [if_neg h1,if_neg h2];clear h;go_enter Tryz.func181,Tryz.ntmps181;go_wp2_with (go_at_call 222;refine (HN.out _ _).mono ?_;rintro e w' ⟨rfl,rfl⟩);go_ret;exact ⟨rfl,rfl⟩
 ·have h1:¬ x<y:=by omega
  rw [if_neg h1,if_pos h];go_enter Tryz.func181,Tryz.ntmps181;go_wp2_with (go_at_call 222;refine (HN.out _ _).mono ?_;rintro e w' ⟨rfl,rfl⟩);go_ret;exact ⟨rfl,rfl⟩
def cmpL:List Int→List Int→Int
 | x :: r,y :: s=>if cmpN x y=0 then cmpL r s else cmpN x y
 | _,_=>0
theorem vcmpL_drop(xs ys:List Int)(k:Nat)(hx:k<xs.length)(hy:k<ys.length):cmpL (xs.drop k) (ys.drop k)=if cmpN xs[k] ys[k]=0 then cmpL (xs.drop (k+1)) (ys.drop (k+1)) else cmpN xs[k] ys[k]:=by
 rw [List.drop_eq_getElem_cons hx,List.drop_eq_getElem_cons hy];rfl
theorem vcmpS_any(A B:Option Addr)(c d:Nat)(xs ys:List Int)(w:World)(hx:Sl w 1 i64V A c xs)(hy:Sl w 1 i64V B d ys)(hl:ys.length=xs.length) :
 Calls Tryz.prog 140 #[.slice A xs.length c,.slice B ys.length d] w fun e w'=>e=.returned (.int .i64 (cmpL xs ys))∧w=w':=by
 have hlx:=hx.len;have HX:=lh hx;have HY:=lh hy;have HL:=lh hl;rw [hl];clear hx hy hl;obtain ⟨n,hn⟩:∃ n,xs.length=n:=⟨_,rfl⟩;have HN:=lh hn;rw [hn] at hlx ⊢;clear hn;go_enter Tryz.func140,Tryz.ntmps140;go_wp2;go_loop [11] (fun i=>∃ k:Nat,k≤n∧i=.int .i64 k∧Hid (cmpL xs ys=cmpL (xs.drop k) (ys.drop k))) (fun i=>n-(intOf i).toNat)
 case atStart=>exact ⟨0,Nat.zero_le _,rfl,rfl⟩
 case round =>
  obtain ⟨k,hk,rfl,HE⟩:=hrel
  by_cases hlt:k<n
  ·obtain ⟨g,off,hA,hg,x0⟩:=sl_i64 HX.out k (by rw [HN.out];exact hlt);obtain ⟨g2,off2,hB,hg2,y0⟩:=sl_i64 HY.out k (by rw [HL.out,HN.out];exact hlt);have HD:=lh (vcmpL_drop xs ys k (by rw [HN.out];exact hlt) (by rw [HL.out,HN.out];exact hlt));have hkx:k<xs.length:=by rw [HN.out];exact hlt
   have hky:k<ys.length:=by rw [HL.out,HN.out];exact hlt
   generalize xs[k]=x at x0 HD;generalize ys[k]=y at y0 HD;clear hkx hky;subst hA hB
   by_cases hc:cmpN x y=0
   ·have HC:=lh hc;go_wp2_with (go_at_call 181;refine (vcmpI_any x y _).mono ?_;rintro e w' ⟨rfl,rfl⟩;rw [hc]);go_round
    case rel=>exact ⟨k+1,by omega,by go_num,by rw [HE.out,HD.out,if_pos HC.out];rfl⟩
    case measure=>simp [intOf];omega
   ·have HC:=lh hc;have hb:(cmpN x y==0)=false:=by simpa using hc
    obtain ⟨z,hz⟩:∃ z,cmpN x y=z:=⟨_,rfl⟩;have HZ:=lh hz;rw [hz] at hb;clear hc hz;go_wp2_with (go_at_call 181;refine (vcmpI_any x y _).mono ?_;rintro e w' ⟨rfl,rfl⟩;rw [HZ.out]);go_ret;exact ⟨by rw [HE.out,HD.out,if_neg HC.out,HZ.out];rfl,rfl⟩
  ·have:n=k:=by omega
   subst this;go_wp2;go_ret;exact ⟨by rw [HE.out,List.drop_of_length_le (by rw [HN.out];exact Nat.le_refl _)];rfl,rfl⟩
theorem cmpL_lex:∀ (xs ys:List Int),xs.length=ys.length→(decide (cmpL xs ys<0))=Star.lexL xs ys
 | [],[],_=>rfl
 | x :: r,y :: s,h=>by
   unfold cmpL Star.lexL;rw [← cmpL_lex r s (by simpa using h)];unfold cmpN
   rcases Int.lt_trichotomy x y with h1|h1|h1
   ·simp [h1]
   ·subst h1;simp
   ·have h2:¬ x<y:=by omega
    have h3:¬ x=y:=by omega
    simp [h1,h2,h3]
def Rc.ids(x:Rc):List Int:=[x.i0,x.i1,x.i2,x.i3,x.i4,x.i5,x.i6,x.i7]
def cmRc(x y:Rc):Int:=cmpL x.ids y.ids
theorem ltRc(x y:Rc):vltC cmRc x y=Star.lexL x.ids y.ids:=cmpL_lex _ _ rfl
theorem ordRc:Sym.Ord (vltC cmRc):=by
 have h:∀ x y,vltC cmRc x y=Star.ltR ⟨x.ids,0,[]⟩ ⟨y.ids,0,[]⟩:=fun x y=>ltRc x y;constructor
 ·intro a b;rw [h,h];exact Star.ordS.asym _ _
 ·intro a b c;rw [h,h,h];exact Star.ordS.trans _ _ _
theorem sl8{W:World}{g:Nat}(xs:List Int)(hx:xs.length=8)(h:∀ j u,xs[j]? =some u→W.cell? ⟨g,j,none⟩=some (.int .i64 u)):Sl W 1 i64V (some ⟨g,0,none⟩) 8 xs :=
 ⟨by omega,by decide,by omega,fun i hi=>⟨g,0,rfl,fun j u hu=>by
  match j,hu with
  | 0,hu =>
    cases hu
    simpa using h i _ (List.getElem?_eq_getElem hi)⟩⟩
theorem list8{P:Nat→Int→Prop}{a0 a1 a2 a3 a4 a5 a6 a7:Int}(h0:P 0 a0)(h1:P 1 a1)(h2:P 2 a2)(h3:P 3 a3)(h4:P 4 a4)(h5:P 5 a5)(h6:P 6 a6)(h7:P 7 a7):∀ j u,[a0,a1,a2,a3,a4,a5,a6,a7][j]? =some u→P j u
 | 0,_,h=>by cases h;exact h0
 | 1,_,h=>by cases h;exact h1
 | 2,_,h=>by cases h;exact h2
 | 3,_,h=>by cases h;exact h3
 | 4,_,h=>by cases h;exact h4
 | 5,_,h=>by cases h;exact h5
 | 6,_,h=>by cases h;exact h6
 | 7,_,h=>by cases h;exact h7
 | j+8,_,h=>by simp at h
theorem tog1_any(x y:Rc)(w:World) :
 Calls Tryz.prog 139 #[x.v,y.v] w fun e w'=>e=.returned (.int .i64 (cmRc x y))∧Keep w w':=by
 obtain ⟨a0,a1,a2,a3,a4,a5,a6,a7,an,aA,al,ac⟩:=x;obtain ⟨b0,b1,b2,b3,b4,b5,b6,b7,bn,bA,bl,bc⟩:=y;show Calls Tryz.prog 139 #[.agg #[.int .i64 a0,.int .i64 a1,.int .i64 a2,.int .i64 a3,.int .i64 a4,.int .i64 a5,.int .i64 a6,.int .i64 a7,.int .i64 an,.slice aA al ac],.agg #[.int .i64 b0,.int .i64 b1,.int .i64 b2,.int .i64 b3,.int .i64 b4,.int .i64 b5,.int .i64 b6,.int .i64 b7,.int .i64 bn,.slice bA bl bc]] w fun e w'=>e=.returned (.int .i64 (cmpL [a0,a1,a2,a3,a4,a5,a6,a7] [b0,b1,b2,b3,b4,b5,b6,b7]))∧Keep w w';have HC:=lh (fun W A B c d (h1:Sl W 1 i64V A c [a0,a1,a2,a3,a4,a5,a6,a7]) (h2:Sl W 1 i64V B d [b0,b1,b2,b3,b4,b5,b6,b7])=>vcmpS_any A B c d [a0,a1,a2,a3,a4,a5,a6,a7] [b0,b1,b2,b3,b4,b5,b6,b7] W h1 h2 rfl);generalize cmpL [a0,a1,a2,a3,a4,a5,a6,a7] [b0,b1,b2,b3,b4,b5,b6,b7]=z at HC ⊢;go_enter Tryz.func139,Tryz.ntmps139;go_upto_region 1 with fail;have hx:Sl ((w.alloc (.cells #[.int .i64 a0,.int .i64 a1,.int .i64 a2,.int .i64 a3,.int .i64 a4,.int .i64 a5,.int .i64 a6,.int .i64 a7,.int .i64 an,.slice aA al ac] 158)).alloc (.cells #[.int .i64 b0,.int .i64 b1,.int .i64 b2,.int .i64 b3,.int .i64 b4,.int .i64 b5,.int .i64 b6,.int .i64 b7,.int .i64 bn,.slice bA bl bc] 158)) 1 i64V (some ⟨w.heap.size,0,none⟩) 8 [a0,a1,a2,a3,a4,a5,a6,a7]:=sl8 _ rfl (list8 (by simp [go_sem]) (by simp [go_sem]) (by simp [go_sem]) (by simp [go_sem]) (by simp [go_sem]) (by simp [go_sem]) (by simp [go_sem]) (by simp [go_sem]))
 have hy:Sl ((w.alloc (.cells #[.int .i64 a0,.int .i64 a1,.int .i64 a2,.int .i64 a3,.int .i64 a4,.int .i64 a5,.int .i64 a6,.int .i64 a7,.int .i64 an,.slice aA al ac] 158)).alloc (.cells #[.int .i64 b0,.int .i64 b1,.int .i64 b2,.int .i64 b3,.int .i64 b4,.int .i64 b5,.int .i64 b6,.int .i64 b7,.int .i64 bn,.slice bA bl bc] 158)) 1 i64V (some ⟨w.heap.size+1,0,none⟩) 8 [b0,b1,b2,b3,b4,b5,b6,b7]:=sl8 _ rfl (list8 (by simp [go_sem]) (by simp [go_sem]) (by simp [go_sem]) (by simp [go_sem]) (by simp [go_sem]) (by simp [go_sem]) (by simp [go_sem]) (by simp [go_sem]));have HX:=lh hx;have HY:=lh hy;have HK:=lh (show Keep w ((w.alloc (.cells #[.int .i64 a0,.int .i64 a1,.int .i64 a2,.int .i64 a3,.int .i64 a4,.int .i64 a5,.int .i64 a6,.int .i64 a7,.int .i64 an,.slice aA al ac] 158)).alloc (.cells #[.int .i64 b0,.int .i64 b1,.int .i64 b2,.int .i64 b3,.int .i64 b4,.int .i64 b5,.int .i64 b6,.int .i64 b7,.int .i64 bn,.slice bA bl bc] 158)) from (by repeat first|exact kp0|apply kp1|apply kp2|apply kp3|apply kp4));have hz1:w.heap.size<((w.alloc (.cells #[.int .i64 a0,.int .i64 a1,.int .i64 a2,.int .i64 a3,.int .i64 a4,.int .i64 a5,.int .i64 a6,.int .i64 a7,.int .i64 an,.slice aA al ac] 158)).alloc (.cells #[.int .i64 b0,.int .i64 b1,.int .i64 b2,.int .i64 b3,.int .i64 b4,.int .i64 b5,.int .i64 b6,.int .i64 b7,.int .i64 bn,.slice bA bl bc] 158)).heap.size:=by simp;omega
 have hz2:w.heap.size+1<((w.alloc (.cells #[.int .i64 a0,.int .i64 a1,.int .i64 a2,.int .i64 a3,.int .i64 a4,.int .i64 a5,.int .i64 a6,.int .i64 a7,.int .i64 an,.slice aA al ac] 158)).alloc (.cells #[.int .i64 b0,.int .i64 b1,.int .i64 b2,.int .i64 b3,.int .i64 b4,.int .i64 b5,.int .i64 b6,.int .i64 b7,.int .i64 bn,.slice bA bl bc] 158)).heap.size:=by simp
 clear hx hy;generalize (w.alloc _).alloc _=w2 at HX HY HK hz1 hz2 ⊢
 first|refine Zone.wp_region_all_gro (by kernel_rfl) (by kernel_rfl) ?_|refine Zone.wp_region_all (by kernel_rfl) (by kernel_rfl) ?_
 repeat
  refine Zone.wpZ_step (fun K hK=>?_);go_simp
  first
  | (refine hK _ _ ?_;clear hK K)
  | (apply Exists.intro
     refine ⟨fun p=>?_,hK _ _ ?_⟩
     ((go_at_call 140;exact Zone.zs (HC.out _ _ _ _ _ (HX.out.keep (by repeat first|exact kp0|apply kp1|apply kp2|apply kp3|apply kp4)) (HY.out.keep (by repeat first|exact kp0|apply kp1|apply kp2|apply kp3|apply kp4)))))
     clear hK K)
 refine Zone.wpZ_nil ?_;intro p;simp only [Zone.fill];go_wp2;go_ret;exact ⟨rfl,HK.out.trans (by repeat first|exact kp0|apply kp1|apply kp2|apply kp3|apply kp4)⟩
theorem vssf_any(f:Nat)(lb:Array Value)(cm:Rc→Rc→Int)(M:Rc→Prop)(w0:World)(g c base n:Nat)(xs:List Rc)(w:World)(ho:Sym.Ord (vltC cm))(hc:VCmpOk f lb cm M w0 g)(hM:∀ x∈xs,M x)(ht:Turn w0 w [g])(hN:xs.length=n)(h:OwnRc w base (.slice (some ⟨g,0,none⟩) n c) xs)(hl:n≤1000000000) :
 Calls Tryz.prog 138 #[.slice (some ⟨g,0,none⟩) n c,.func (.func f) #[] lb] w fun e w'=>e=.returned (.tuple #[])∧OwnRc w' base (.slice (some ⟨g,0,none⟩) n c) (Sym.ssort (vltC cm) xs)∧Turn w w' [g]:=by
 have HS:=lh (vstab_any f lb cm M w0 g c base n xs w ho hc hM ht hN h hl);have HO:=lh ho;clear ho hc hM ht hN h hl;go_enter Tryz.func138,Tryz.ntmps138;go_wp2_with (go_at_call 180;refine hold ?_);refine unhold ?_;refine HS.out.mono ?_;rintro e w' ⟨rfl,ys,hs,hown,hT⟩;have HY:=lh (Sym.stb_ssort HO.out hs);have HOW:=lh hown;have HT:=lh hT;clear hs hown hT HS;go_wp2;go_end0;exact ⟨rfl,by rw [← HY.out];exact HOW.out,HT.out⟩
theorem cmok_rc(w0:World)(g:Nat):VCmpOk 139 #[] cmRc (fun _=>True) w0 g :=
 ⟨enters_of Tryz.func139 (by kernel_rfl) rfl,fun W x y _ _ _=>tog1_any x y W⟩
theorem vsort_any(g c base n:Nat)(xs:List Rc)(w:World)(hN:xs.length=n)(h:OwnRc w base (.slice (some ⟨g,0,none⟩) n c) xs)(hl:n≤1000000000) :
 Calls Tryz.prog 138 #[.slice (some ⟨g,0,none⟩) n c,.func (.func 139) #[] #[]] w fun e w'=>e=.returned (.tuple #[])∧OwnRc w' base (.slice (some ⟨g,0,none⟩) n c) (Sym.ssort (vltC cmRc) xs)∧Turn w w' [g] :=
 vssf_any 139 #[] cmRc (fun _=>True) w g c base n xs w ordRc (cmok_rc w g) (fun _ _=>trivial) (Turn.refl _ _) hN h hl
abbrev SM:=Int × Int × Int
def smC(s:SM):List Value:=[.int .i64 s.1,.int .i64 s.2.1,.int .i64 s.2.2]
theorem sm_len(x:SM):(smC x).length=3:=rfl
theorem sm_one(x:SM):∀ u∈smC x,u.oneCell'=true:=by simp [smC,Value.oneCell']
theorem elt_sm:Elt Tryz.prog 156 160 3 24:=by
 obtain ⟨i,hi,h1,h2,h3⟩:=info_parts (show (Tryz.prog.info? 160).map (fun i=>(i.zero,i.size,i.bytes))=some (some (.agg #[.int .i64 0,.int .i64 0,.int .i64 0]),3,24) by kernel_rfl);exact ⟨i,_,Tryz.underlying156,hi,h1,h2,h3,rfl,by decide,by decide⟩
theorem elt_rc:Elt Tryz.prog 151 158 10 96:=by
 obtain ⟨i,hi,h1,h2,h3⟩:=info_parts (show (Tryz.prog.info? 158).map (fun i=>(i.zero,i.size,i.bytes))=some (some (.agg #[.int .i64 0,.int .i64 0,.int .i64 0,.int .i64 0,.int .i64 0,.int .i64 0,.int .i64 0,.int .i64 0,.int .i64 0,.slice none 0 0]),10,96) by kernel_rfl);exact ⟨i,_,Tryz.underlying151,hi,h1,h2,h3,rfl,by decide,by decide⟩
abbrev OwnSm(w:World)(base:Nat)(v:Value)(xs:List SM):Prop:=Own w base 160 3 smC v xs
def Rc.sv(r:Rc):Value:=.slice r.A r.l r.c
def blkR(r:Rc):Option Nat:=r.sv.ownBlock
structure RecAt(W:World)(base:Nat)(r:Rc)(x:Star.SR):Prop where
 ids:r.ids=x.ids
 n:r.n=x.n
 own:OwnSm W base r.sv x.sums
 nil_:x.sums=[]→r.A=none
theorem RecAt.keep{w w':World}{base:Nat}{r:Rc}{x:Star.SR}(h:RecAt w base r x)(hk:Keep w w'):RecAt w' base r x:=⟨h.ids,h.n,h.own.keep hk,h.nil_⟩
theorem RecAt.base{w:World}{base base':Nat}{r:Rc}{x:Star.SR}(h:RecAt w base r x)(hb:base'≤base):RecAt w base' r x:=⟨h.ids,h.n,h.own.base_mono hb,h.nil_⟩
theorem RecAt.turn{w w':World}{base:Nat}{r:Rc}{x:Star.SR}{S:List Nat}(h:RecAt w base r x)(ht:Turn w w' S)(hs:∀ i∈S,blkR r≠some i):RecAt w' base r x:=⟨h.ids,h.n,h.own.turn ht hs,h.nil_⟩
theorem RecAt.len{w:World}{base:Nat}{r:Rc}{x:Star.SR}(h:RecAt w base r x):r.l=x.sums.length:=by
 rcases h.own.2 with ⟨h1,h0⟩ | ⟨g,cap,cur,h1,_⟩<;>(unfold Rc.sv at h1;injection h1 with _ e _;try omega)
theorem RecAt.len8{w:World}{base:Nat}{r:Rc}{x:Star.SR}(h:RecAt w base r x):x.ids.length=8:=by rw [← h.ids];rfl
def Apart(P:List (Rc × Star.SR)):Prop:=P.Pairwise fun p q=>∀ b,blkR p.1=some b→blkR q.1≠some b
def RecsAt(W:World)(base:Nat)(P:List (Rc × Star.SR)):Prop:=∀ p∈P,RecAt W base p.1 p.2
theorem RecsAt.keep{w w':World}{base:Nat}{P:List (Rc × Star.SR)}(h:RecsAt w base P)(hk:Keep w w'):RecsAt w' base P:=fun p hp=>(h p hp).keep hk
theorem RecsAt.base{w:World}{base base':Nat}{P:List (Rc × Star.SR)}(h:RecsAt w base P)(hb:base'≤base):RecsAt w base' P:=fun p hp=>(h p hp).base hb
theorem vown_own_ne{α β:Type}{w:World}{base base' k k':Nat}{e e':TypeId}{enc:α→List Value}{enc':β→List Value}{v v':Value}{xs:List α}{ys:List β}(h:Own w base e k enc v xs)(h':Own w base' e' k' enc' v' ys)(ht:e≠e'):∀ b,v.ownBlock=some b→v'.ownBlock≠some b:=by
 intro b hb hb'
 rcases h.2 with ⟨rfl,_⟩ | ⟨g,cap,cur,rfl,_,hg,_⟩
 ·cases hb
 ·rcases h'.2 with ⟨rfl,_⟩ | ⟨g',cap',cur',rfl,_,hg',_⟩
  ·cases hb'
  ·simp only [Value.ownBlock,Option.some.injEq] at hb hb';subst hb;subst hb';rw [hg] at hg';simp at hg';exact ht hg'.2
theorem RecsAt.turn{w w':World}{base base' k:Nat}{e:TypeId}{α:Type}{enc:α→List Value}{v:Value}{xs:List α}{S:List Nat}{P:List (Rc × Star.SR)}(h:RecsAt w base P)(ho:Own w base' e k enc v xs)(he:e≠160)(ht:Turn w w' S)(hS:∀ i∈S,v.ownBlock=some i):RecsAt w' base P:=fun p hp=>(h p hp).turn ht fun i hi=>vown_own_ne ho (h p hp).own he i (hS i hi)
structure Nc where
 d:Int
 lo:Int
 hi:Int
 A:Option Addr
 l:Nat
 c:Nat
def Nc.cells(x:Nc):List Value:=[.int .i64 x.d,.int .i64 x.lo,.int .i64 x.hi,.slice x.A x.l x.c]
theorem nc_len(x:Nc):x.cells.length=4:=rfl
theorem nc_one(x:Nc):∀ u∈x.cells,u.oneCell'=true:=by simp [Nc.cells,Value.oneCell']
def kdC(s:Int × Nat):List Value:=[.int .i64 s.1,.int .i64 (s.2:Int)]
theorem kd_len(x:Int × Nat):(kdC x).length=2:=rfl
theorem kd_one(x:Int × Nat):∀ u∈kdC x,u.oneCell'=true:=by simp [kdC,Value.oneCell']
theorem elt_kd:Elt Tryz.prog 115 119 2 16:=by
 obtain ⟨i,hi,h1,h2,h3⟩:=info_parts (show (Tryz.prog.info? 119).map (fun i=>(i.zero,i.size,i.bytes))=some (some (.agg #[.int .i64 0,.int .i64 0]),2,16) by kernel_rfl);exact ⟨i,_,Tryz.underlying115,hi,h1,h2,h3,rfl,by decide,by decide⟩
theorem elt_nc:Elt Tryz.prog 107 117 4 48:=by
 obtain ⟨i,hi,h1,h2,h3⟩:=info_parts (show (Tryz.prog.info? 117).map (fun i=>(i.zero,i.size,i.bytes))=some (some (.agg #[.int .i64 0,.int .i64 0,.int .i64 0,.slice none 0 0]),4,48) by kernel_rfl);exact ⟨i,_,Tryz.underlying107,hi,h1,h2,h3,rfl,by decide,by decide⟩
abbrev OwnKd(w:World)(base:Nat)(v:Value)(xs:List (Int × Nat)):Prop:=Own w base 119 2 kdC v xs
abbrev OwnNc(w:World)(base:Nat)(v:Value)(xs:List Nc):Prop:=Own w base 117 4 Nc.cells v xs
structure NodeAt(W:World)(base:Nat)(r:Nc)(x:Star.SN):Prop where
 d:r.d=(x.depth:Int)
 lo:r.lo=(x.lo:Int)
 hi:r.hi=(x.hi:Int)
 own:OwnKd W base (.slice r.A r.l r.c) x.kids
def NodesAt(W:World)(base:Nat)(P:List (Nc × Star.SN)):Prop:=∀ p∈P,NodeAt W base p.1 p.2
def RN(W:World)(i:Nat):Prop:=∃ cs f,W.heap[i]? =some (.cells cs 158 f)∨W.heap[i]? =some (.cells cs 117 f)
structure Gw(base gt:Nat)(W W':World):Prop where
 os:W'.os=W.os
 tape:W'.tape=W.tape
 output:W'.output=W.output
 size:W.heap.size≤W'.heap.size
 block:∀ i,i<W.heap.size→(i<base∨(i≠gt∧¬ RN W i))→W'.heap[i]? =W.heap[i]?
section
variable {base gt:Nat} {w W W' W2:World}
theorem Gw.refl(base gt:Nat)(W:World):Gw base gt W W:=⟨rfl,rfl,rfl,Nat.le_refl _,fun _ _ _=>rfl⟩
theorem Gw.keep(h:Keep W W')(base gt:Nat):Gw base gt W W':=⟨h.os,h.tape,h.output,h.size,fun i hi _=>h.block i hi⟩
theorem Gw.trans(h:Gw base gt W W')(k:Gw base gt W' W2):Gw base gt W W2 :=
 ⟨k.os.trans h.os,k.tape.trans h.tape,k.output.trans h.output,Nat.le_trans h.size k.size,fun i hi hc=>by
  have e:=h.block i hi hc;refine (k.block i (Nat.lt_of_lt_of_le hi h.size) ?_).trans e
  rcases hc with hc | ⟨h1,h2⟩
  ·exact .inl hc
  ·refine .inr ⟨h1,fun ⟨cs,f,hq⟩=>h2 ⟨cs,f,?_⟩⟩;rw [e] at hq;exact hq⟩
theorem Gw.of_turn{S:List Nat}(h:Turn W W' S)(hs:∀ i∈S,base≤i∧(i=gt∨RN W i∨W.heap.size≤i)):Gw base gt W W' :=
 ⟨h.os,h.tape,h.output,h.size,fun i hi hc=>h.block i hi fun hm=>by
  obtain ⟨h1,h2⟩:=hs i hm
  rcases hc with hc | ⟨hc1,hc2⟩
  ·omega
  ·rcases h2 with h2|h2|h2
   ·exact hc1 h2
   ·exact hc2 h2
   ·omega⟩
theorem Gw.own{α:Type}{b k:Nat}{e T:TypeId}{enc:α→List Value}{v:Value}{xs:List α}{vs:List Value}(h:Own W b e k enc v xs)(hg:Gw base gt W W')(h1:e≠158)(h2:e≠117)(hr:Row W gt T vs)(hT:T≠e):Own W' b e k enc v xs:=by
 have hne:=own_row_ne h hr hT;refine ⟨h.1,?_⟩
 rcases h.2 with hn | ⟨g,cap,cur,rfl,hb,hq,rest⟩
 ·exact .inl hn
 ·refine .inr ⟨g,cap,cur,rfl,hb,(hg.block g (Array.getElem?_eq_some_iff.1 hq).1 (.inr ⟨fun e=>hne (by rw [e];rfl),fun ⟨cs,f,hc⟩=>?_⟩)).trans hq,rest⟩;rw [hq] at hc;simp only [Option.some.injEq,Obj.cells.injEq] at hc
  rcases hc with hc|hc
  ·exact h1 hc.2.1
  ·exact h2 hc.2.1
theorem Gw.row{g:Nat}{T T':TypeId}{vs us:List Value}(h:Row W g T vs)(hg:Gw base gt W W')(h1:T≠158)(h2:T≠117)(hr:Row W gt T' us)(hT:T≠T'):Row W' g T vs:=by
 refine (hg.block g h.lt (.inr ⟨row_ne h hr hT,fun ⟨cs,f,hc⟩=>?_⟩)).trans h;unfold Row at h;rw [h] at hc;simp only [Option.some.injEq,Obj.cells.injEq] at hc
 rcases hc with hc|hc
 ·exact h1 hc.2.1
 ·exact h2 hc.2.1
theorem Gw.after(h:Keep w W)(k:Gw base gt W W')(hb:w.heap.size≤base):Keep w W' :=
 ⟨k.os.trans h.os,k.tape.trans h.tape,k.output.trans h.output,Nat.le_trans h.size k.size,fun i hi=>(k.block i (Nat.lt_of_lt_of_le hi h.size) (.inl (by omega))).trans (h.block i hi)⟩
end
theorem own_RN{α:Type}{w:World}{b k i:Nat}{e:TypeId}{enc:α→List Value}{v:Value}{xs:List α}(h:Own w b e k enc v xs)(he:e=158∨e=117)(hv:v.ownBlock=some i):b≤i∧RN w i:=by
 rcases h.2 with ⟨rfl,_⟩ | ⟨g,cap,cur,rfl,hb,hg,_⟩
 ·cases hv
 ·simp only [Value.ownBlock,Option.some.injEq] at hv;subst hv;refine ⟨hb,cur,(0,0),?_⟩
  rcases he with rfl|rfl
  ·exact .inl hg
  ·exact .inr hg
theorem sclone_any(A:Option Addr)(c:Nat)(xs:List SM)(w:World)(h:Sl w 3 smC A c xs)(hl:xs.length≤1000000000)(h0:xs=[]→A=none) :
 Calls Tryz.prog 141 #[.slice A xs.length c] w fun e w'=>∃ A' c',e=.returned (.slice A' xs.length c')∧Own w' w.heap.size 160 3 smC (.slice A' xs.length c') xs∧(xs=[]→A'=none)∧Keep w w':=by
 have hn:=fun W:World=>Lib.run_eql_slice_nil W 156 160 A xs.length c 0 0 Tryz.underlying156
 cases A with
 | none =>
   have hx:xs=[]:=by
    rcases xs with _ | ⟨y,r⟩
    ·rfl
    ·obtain ⟨_,_,hA,_⟩:=h.at_ 0 (by simp)
     cases hA
   subst hx;simp only [List.length_nil,Option.isNone_none] at hn ⊢;go_enter Tryz.func141,Tryz.ntmps141;go_wp2;go_ret;exact ⟨none,0,rfl,Own.nil_ _ _ _ _ _,by simp,Keep.refl _⟩
 | some ad =>
   have H:=lh h;clear h;have HNE:=lh (fun e:xs=[]=>by cases h0 e:xs=[]→False);clear h0;go_enter Tryz.func141,Tryz.ntmps141;go_wp2_with (at_builtin;refine hold ?_);refine unhold ?_;have HO1:Own (w.alloc (.cells #[] 160)) w.heap.size 160 3 smC (.slice (some ⟨w.heap.size,0,none⟩) 0 0) ([]:List SM):=World.ownsRow_made w #[] 0 (Nat.le_refl _) (by unfold maxLen;omega) rfl;refine wpList_app elt_sm sm_len sm_one rfl (.tmp 5) (.tmp 6) rfl (ys:=xs) HO1 rfl rfl (H.out.keep (by repeat first|exact kp0|apply kp1|apply kp2|apply kp3|apply kp4)) (by simp;omega) (by simp) ?_;intro v1 w1 hown1 hg1 _;have ⟨a1,a2,a3⟩:=HO1.after (w:=w) hg1 (by repeat first|exact kp0|apply kp1|apply kp2|apply kp3|apply kp4) (Nat.le_refl _);clear hn a2 a3;go_wp2;go_ret;simp only [List.nil_append] at hown1;obtain ⟨A',c',hv⟩:=own_form hown1;exact ⟨A',c',by rw [← hv];rfl,by rw [← hv];exact hown1,fun e=>(HNE.out e).elim,a1⟩
theorem rclone_any(A:Option Addr)(c:Nat)(xs:List Rc)(w:World)(h:Sl w 10 Rc.cells A c xs)(hl:xs.length≤1000000000)(h0:xs=[]→A=none) :
 Calls Tryz.prog 142 #[.slice A xs.length c] w fun e w'=>∃ A' c',e=.returned (.slice A' xs.length c')∧Own w' w.heap.size 158 10 Rc.cells (.slice A' xs.length c') xs∧(xs=[]→A'=none)∧Keep w w':=by
 have hn:=fun W:World=>Lib.run_eql_slice_nil W 151 158 A xs.length c 0 0 Tryz.underlying151
 cases A with
 | none =>
   have hx:xs=[]:=by
    rcases xs with _ | ⟨y,r⟩
    ·rfl
    ·obtain ⟨_,_,hA,_⟩:=h.at_ 0 (by simp)
     cases hA
   subst hx;simp only [List.length_nil,Option.isNone_none] at hn ⊢;go_enter Tryz.func142,Tryz.ntmps142;go_wp2;go_ret;exact ⟨none,0,rfl,Own.nil_ _ _ _ _ _,by simp,Keep.refl _⟩
 | some ad =>
   have H:=lh h;clear h;have HNE:=lh (fun e:xs=[]=>by cases h0 e:xs=[]→False);clear h0;go_enter Tryz.func142,Tryz.ntmps142;go_wp2_with (at_builtin;refine hold ?_);refine unhold ?_;have HO1:Own (w.alloc (.cells #[] 158)) w.heap.size 158 10 Rc.cells (.slice (some ⟨w.heap.size,0,none⟩) 0 0) ([]:List Rc):=World.ownsRow_made w #[] 0 (Nat.le_refl _) (by unfold maxLen;omega) rfl;refine wpList_app elt_rc rc_len rc_one rfl (.tmp 5) (.tmp 6) rfl (ys:=xs) HO1 rfl rfl (H.out.keep (by repeat first|exact kp0|apply kp1|apply kp2|apply kp3|apply kp4)) (by simp;omega) (by simp) ?_;intro v1 w1 hown1 hg1 _;have ⟨a1,a2,a3⟩:=HO1.after (w:=w) hg1 (by repeat first|exact kp0|apply kp1|apply kp2|apply kp3|apply kp4) (Nat.le_refl _);clear hn a2 a3;go_wp2;go_ret;simp only [List.nil_append] at hown1;obtain ⟨A',c',hv⟩:=own_form hown1;exact ⟨A',c',by rw [← hv];rfl,by rw [← hv];exact hown1,fun e=>(HNE.out e).elim,a1⟩
theorem held_ids:Tryz.prog.stoodInHeld 155=false:=by kernel_rfl
theorem guard_ids:Tryz.prog.eqGuardType Tryz.prog.depth 155=false:=by kernel_rfl
theorem und_ids:Tryz.prog.underlying 155=some (.array 8 3):=by kernel_rfl
theorem eqI_run(d:Nat)(a b:Int)(w:World):Sem.run Tryz.prog (Op.equalIn (d+1) 3 (.int .i64 a) (.int .i64 b)) w=.ok (a==b) w:=by
 simp only [Op.equalIn,Sem.run_bind,run_underlying Tryz.underlying3,Result.andThen_ok,if_true,Sem.run_pure]
theorem part_run(xs:Array Value)(i:Nat)(v:Value)(h:xs[i]? =some v)(_hv:v.oneCell'=true)(w:World):Sem.run Tryz.prog (part 3 xs i) w=.ok v w:=by
 go_simp
theorem eq8_run(d:Nat)(a0 a1 a2 a3 a4 a5 a6 a7 b0 b1 b2 b3 b4 b5 b6 b7:Int)(w:World):Sem.run Tryz.prog (Op.equalIn (d+2) 155 (.agg #[.int .i64 a0,.int .i64 a1,.int .i64 a2,.int .i64 a3,.int .i64 a4,.int .i64 a5,.int .i64 a6,.int .i64 a7]) (.agg #[.int .i64 b0,.int .i64 b1,.int .i64 b2,.int .i64 b3,.int .i64 b4,.int .i64 b5,.int .i64 b6,.int .i64 b7])) w=.ok (a0==b0&&a1==b1&&a2==b2&&a3==b3&&a4==b4&&a5==b5&&a6==b6&&a7==b7) w:=by
 unfold Op.equalIn;simp only [Sem.run_bind,run_underlying und_ids,Result.andThen_ok];have hz:(Sem.run Tryz.prog (sizeOf 3) w)=.ok 1 w:=by go_simp
 have hp:=part_run;rw [hz];simp only [Result.andThen_ok,Std.Legacy.Range.forIn_eq_forIn_range',Std.Legacy.Range.size,Nat.mul_one];simp only [Nat.sub_zero,Nat.add_one_sub_one,Nat.div_one,List.range',List.forIn_cons,List.forIn_nil,Sem.run_bind,Nat.zero_add,Nat.reduceAdd,Nat.reduceSub,Nat.reduceDiv];rw [part_run _ 0 (.int .i64 a0) rfl rfl,Result.andThen_ok,part_run _ 0 (.int .i64 b0) rfl rfl,Result.andThen_ok,eqI_run,Result.andThen_ok]
 cases h0:a0==b0
 ·simp only [Bool.not_false,if_true,Sem.run_pure,Result.andThen_ok,Bool.false_and,Bool.true_and]
 simp only [Bool.not_true,Bool.false_eq_true,if_false,Sem.run_pure,Result.andThen_ok,Sem.run_bind,Bool.true_and];rw [part_run _ 1 (.int .i64 a1) rfl rfl,Result.andThen_ok,part_run _ 1 (.int .i64 b1) rfl rfl,Result.andThen_ok,eqI_run,Result.andThen_ok]
 cases h1:a1==b1
 ·simp only [Bool.not_false,if_true,Sem.run_pure,Result.andThen_ok,Bool.false_and,Bool.true_and]
 simp only [Bool.not_true,Bool.false_eq_true,if_false,Sem.run_pure,Result.andThen_ok,Sem.run_bind,Bool.true_and];rw [part_run _ 2 (.int .i64 a2) rfl rfl,Result.andThen_ok,part_run _ 2 (.int .i64 b2) rfl rfl,Result.andThen_ok,eqI_run,Result.andThen_ok]
 cases h2:a2==b2
 ·simp only [Bool.not_false,if_true,Sem.run_pure,Result.andThen_ok,Bool.false_and,Bool.true_and]
 simp only [Bool.not_true,Bool.false_eq_true,if_false,Sem.run_pure,Result.andThen_ok,Sem.run_bind,Bool.true_and];rw [part_run _ 3 (.int .i64 a3) rfl rfl,Result.andThen_ok,part_run _ 3 (.int .i64 b3) rfl rfl,Result.andThen_ok,eqI_run,Result.andThen_ok]
 cases h3:a3==b3
 ·simp only [Bool.not_false,if_true,Sem.run_pure,Result.andThen_ok,Bool.false_and,Bool.true_and]
 simp only [Bool.not_true,Bool.false_eq_true,if_false,Sem.run_pure,Result.andThen_ok,Sem.run_bind,Bool.true_and];rw [part_run _ 4 (.int .i64 a4) rfl rfl,Result.andThen_ok,part_run _ 4 (.int .i64 b4) rfl rfl,Result.andThen_ok,eqI_run,Result.andThen_ok]
 cases h4:a4==b4
 ·simp only [Bool.not_false,if_true,Sem.run_pure,Result.andThen_ok,Bool.false_and,Bool.true_and]
 simp only [Bool.not_true,Bool.false_eq_true,if_false,Sem.run_pure,Result.andThen_ok,Sem.run_bind,Bool.true_and];rw [part_run _ 5 (.int .i64 a5) rfl rfl,Result.andThen_ok,part_run _ 5 (.int .i64 b5) rfl rfl,Result.andThen_ok,eqI_run,Result.andThen_ok]
 cases h5:a5==b5
 ·simp only [Bool.not_false,if_true,Sem.run_pure,Result.andThen_ok,Bool.false_and,Bool.true_and]
 simp only [Bool.not_true,Bool.false_eq_true,if_false,Sem.run_pure,Result.andThen_ok,Sem.run_bind,Bool.true_and];rw [part_run _ 6 (.int .i64 a6) rfl rfl,Result.andThen_ok,part_run _ 6 (.int .i64 b6) rfl rfl,Result.andThen_ok,eqI_run,Result.andThen_ok]
 cases h6:a6==b6
 ·simp only [Bool.not_false,if_true,Sem.run_pure,Result.andThen_ok,Bool.false_and,Bool.true_and]
 simp only [Bool.not_true,Bool.false_eq_true,if_false,Sem.run_pure,Result.andThen_ok,Sem.run_bind,Bool.true_and];rw [part_run _ 7 (.int .i64 a7) rfl rfl,Result.andThen_ok,part_run _ 7 (.int .i64 b7) rfl rfl,Result.andThen_ok,eqI_run,Result.andThen_ok]
 cases h7:a7==b7
 ·simp only [Bool.not_false,if_true,Sem.run_pure,Result.andThen_ok,Bool.false_and,Bool.true_and]
 simp only [Bool.not_true,Bool.false_eq_true,if_false,Sem.run_pure,Result.andThen_ok,Sem.run_bind,Bool.true_and]
theorem run_ne_ids(a0 a1 a2 a3 a4 a5 a6 a7 b0 b1 b2 b3 b4 b5 b6 b7:Int)(w:World):Sem.run Tryz.prog (binOp .neq 155 (.agg #[.int .i64 a0,.int .i64 a1,.int .i64 a2,.int .i64 a3,.int .i64 a4,.int .i64 a5,.int .i64 a6,.int .i64 a7]) (.agg #[.int .i64 b0,.int .i64 b1,.int .i64 b2,.int .i64 b3,.int .i64 b4,.int .i64 b5,.int .i64 b6,.int .i64 b7])) w=.ok (.bool (!(a0==b0&&a1==b1&&a2==b2&&a3==b3&&a4==b4&&a5==b5&&a6==b6&&a7==b7))) w:=by
 have h1:=held_ids;have h3:=guard_ids;have h4:Sem.run Tryz.prog (Op.equalIn 10000 155 (.agg #[.int .i64 a0,.int .i64 a1,.int .i64 a2,.int .i64 a3,.int .i64 a4,.int .i64 a5,.int .i64 a6,.int .i64 a7]) (.agg #[.int .i64 b0,.int .i64 b1,.int .i64 b2,.int .i64 b3,.int .i64 b4,.int .i64 b5,.int .i64 b6,.int .i64 b7])) w=.ok (a0==b0&&a1==b1&&a2==b2&&a3==b3&&a4==b4&&a5==b5&&a6==b6&&a7==b7) w:=eq8_run 9998 a0 a1 a2 a3 a4 a5 a6 a7 b0 b1 b2 b3 b4 b5 b6 b7 w;generalize (a0==b0&&a1==b1&&a2==b2&&a3==b3&&a4==b4&&a5==b5&&a6==b6&&a7==b7)=r at h4 ⊢;go_simp
theorem run_neG_ids(op:BinOp)(x y:Operand)(xs ys:Array Value)(w:World):(eqGuard op 155 x y (.agg xs) (.agg ys)).run Tryz.prog w=.ok () w:=run_eqGuard_agg w op 155 x y xs ys guard_ids
def rd8(w:World)(g o:Nat):Option Value :=
 match w.cell? ⟨g,o+0,none⟩,w.cell? ⟨g,o+1,none⟩,w.cell? ⟨g,o+2,none⟩,w.cell? ⟨g,o+3,none⟩,w.cell? ⟨g,o+4,none⟩,w.cell? ⟨g,o+5,none⟩,w.cell? ⟨g,o+6,none⟩,w.cell? ⟨g,o+7,none⟩ with
 | some a,some b,some c,some d,some e,some f,some x,some y=>some (.agg #[a,b,c,d,e,f,x,y])
 | _,_,_,_,_,_,_,_=>none
theorem rd8_some{w:World}{g o:Nat}{v:Value}(h:rd8 w g o=some v):∃ cs:List Value,cs.length=8∧w.rangeAt g o cs∧v=.agg cs.toArray:=by
 unfold rd8 at h
 split at h
 ·rename_i a b c d e f x y h0 h1 h2 h3 h4 h5 h6 h7
  cases h
  refine ⟨[a,b,c,d,e,f,x,y],rfl,fun j v hv=>?_,rfl⟩
  match j,hv with
  | 0,hv=>cases hv;exact h0
  | 1,hv=>cases hv;exact h1
  | 2,hv=>cases hv;exact h2
  | 3,hv=>cases hv;exact h3
  | 4,hv=>cases hv;exact h4
  | 5,hv=>cases hv;exact h5
  | 6,hv=>cases hv;exact h6
  | 7,hv=>cases hv;exact h7
  | n+8,hv=>simp at hv
 ·cases h
def Rc.iv(x:Rc):Value:=.agg #[.int .i64 x.i0,.int .i64 x.i1,.int .i64 x.i2,.int .i64 x.i3,.int .i64 x.i4,.int .i64 x.i5,.int .i64 x.i6,.int .i64 x.i7]
theorem rd8_of{w:World}{g o:Nat}{x:Rc}(h:∀ j u,x.cells[j]? =some u→w.cell? ⟨g,o+j,none⟩=some u):rd8 w g o=some x.iv:=by
 unfold rd8;rw [h 0 _ rfl,h 1 _ rfl,h 2 _ rfl,h 3 _ rfl,h 4 _ rfl,h 5 _ rfl,h 6 _ rfl,h 7 _ rfl];rfl
noncomputable def slowI(w:World)(g o:Nat):Result Value:=(Instr.loadAt 155 (.pointer (some ⟨g,o,none⟩))).run Tryz.prog w
noncomputable def fastI(v:Value):Sem Value:=Instr.loadAt 155 v
theorem to_fastI(v:Value):Instr.loadAt 155 v=fastI v:=rfl
theorem ids_size:(Tryz.prog.info? 155).map (·.size)=some 8:=by kernel_rfl
theorem fast_loadI(w:World)(g o:Nat):(fastI (.pointer (some ⟨g,o,none⟩))).run Tryz.prog w=match rd8 w g o with
 | some v=>.ok v w
 | none=>slowI w g o:=by
 unfold fastI
 cases h:rd8 w g o with
 | none=>rfl
 | some v =>
   obtain ⟨cs,hl,hr,rfl⟩:=rd8_some h;exact run_loadAt_mid w g o 155 cs _ hr und_ids rfl (by rw [hl];exact ids_size)
theorem rd8_keep{w w':World}{g o:Nat}{v:Value}(h:rd8 w g o=some v)(hk:Keep w w'):rd8 w' g o=some v:=by
 obtain ⟨cs,hl,hr,rfl⟩:=rd8_some h;have hr':=rangeAt_keep hr hk
 match cs,hl with
 | [a,b,c,d,e,f,x,y],_ =>
   have h0:=hr' 0 _ rfl;have h1:=hr' 1 _ rfl;have h2:=hr' 2 _ rfl;have h3:=hr' 3 _ rfl;have h4:=hr' 4 _ rfl;have h5:=hr' 5 _ rfl;have h6:=hr' 6 _ rfl;have h7:=hr' 7 _ rfl;unfold rd8;rw [h0,h1,h2,h3,h4,h5,h6,h7]
theorem rd8_drewN{w:World}{g o k:Nat}{v:Value}(h:rd8 w g o=some v):rd8 (w.drewN k) g o=some v:=rd8_keep h (by repeat first|exact kp0|apply kp1|apply kp2|apply kp3|apply kp4)
theorem rd8_gro{w:World}{p:GB}{g o:Nat}{v:Value}(h:rd8 w g o=some v):rd8 (w.gro p) g o=some v:=rd8_keep h (by repeat first|exact kp0|apply kp1|apply kp2|apply kp3|apply kp4)
theorem rd8_drew(w:World)(g o:Nat):rd8 w.drew g o=rd8 w g o:=rfl
def eq8(x y:Rc):Bool:=x.i0==y.i0&&x.i1==y.i1&&x.i2==y.i2&&x.i3==y.i3&&x.i4==y.i4&&x.i5==y.i5&&x.i6==y.i6&&x.i7==y.i7
theorem eq8_ids(x y:Rc):eq8 x y=true↔x.ids=y.ids:=by
 simp [eq8,Rc.ids,and_assoc]
theorem run_ne_iv(x y:Rc)(w:World):Sem.run Tryz.prog (binOp .neq 155 x.iv y.iv) w=.ok (.bool (!eq8 x y)) w:=run_ne_ids _ _ _ _ _ _ _ _ _ _ _ _ _ _ _ _ w
theorem run_neG_iv(op:BinOp)(a b:Operand)(x y:Rc)(w:World):(eqGuard op 155 a b x.iv y.iv).run Tryz.prog w=.ok () w:=run_neG_ids op a b _ _ w
end Go.Proofs.YtpkocnpamcchcaaGreatDoor
