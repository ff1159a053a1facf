/- Parts of the proof. -/
import Derived.Laws.MakeOwn
import Derived.Laws.OwnMore
import Derived.Laws.CopyOwn
import Derived.Deep.Cut
import Derived.Deep.CutRange
import Derived.Test.YtpkocnpamcchcaaGreatDoorK05
set_option maxRecDepth 100000
set_option maxHeartbeats 4000000
set_option linter.unusedSimpArgs false
set_option linter.unusedVariables false
set_option linter.unnecessarySimpa false
namespace Go.Zone
open Go.RowKit
def Row(w:World)(g:Nat)(T:TypeId)(vs:List Value):Prop:=w.heap[g]? =some (.cells vs.toArray T (0,0))
section
variable {w w':World} {g:Nat} {T:TypeId} {vs:List Value}
theorem Row.lt(h:Row w g T vs):g<w.heap.size:=(Array.getElem?_eq_some_iff.1 h).1
theorem Row.cell(h:Row w g T vs)(j:Nat)(u:Value)(hu:vs[j]? =some u):w.cell? ⟨g,j,none⟩=some u:=by
 unfold Row at h;simp [World.cell?,h,hu]
theorem Row.soft(h:Row w g T vs)(j:Nat):w.frozen? ⟨g,j,none⟩=false:=by
 unfold Row at h;simp [World.frozen?,h]
theorem Row.set(h:Row w g T vs)(j:Nat)(u:Value):Row (w.setCell ⟨g,j,none⟩ u) g T (vs.set j u):=by
 unfold Row at h ⊢;simp only [World.setCell,Array.getElem?_modify,h,if_true,Option.map_some,Option.isSome_none,Bool.false_eq_true,if_false];simp
theorem Row.other(h:Row w g T vs){b:Nat}(j:Nat)(u:Value)(hb:b≠g):Row (w.setCell ⟨b,j,none⟩ u) g T vs:=by
 unfold Row at h ⊢;simp only [World.setCell,Array.getElem?_modify,if_neg hb,h]
theorem row_alloc(w:World)(T:TypeId)(vs:List Value):Row (w.alloc (.cells vs.toArray T)) w.heap.size T vs:=by
 unfold Row World.alloc;simp
theorem Row.keep(h:Row w g T vs)(hk:Keep w w'):Row w' g T vs:=(hk.block g h.lt).trans h
end
theorem row_ne{w:World}{a b:Nat}{T T':TypeId}{vs us:List Value}(h:Row w a T vs)(k:Row w b T' us)(ht:T≠T'):a≠b:=fun e=>by
 subst e;unfold Row at h k;rw [h] at k;simp at k;exact ht k.2
def allocs(w:World):List Obj→World
 | []=>w
 | o :: r=>allocs (w.alloc o) r
theorem allocs_keep:∀ (l:List Obj) (w:World),Keep w (allocs w l)
 | [],w=>Keep.refl w
 | o :: r,w=>((Keep.refl w).alloc o).trans (allocs_keep r (w.alloc o))
theorem allocs_at:∀ (l:List Obj) (w:World) (i:Nat) (o:Obj),l[i]? =some o→(allocs w l).heap[w.heap.size+i]? =some o
 | [],_,_,_,h=>by cases h
 | x :: r,w,0,o,h=>by
   simp only [List.getElem?_cons_zero,Option.some.injEq] at h;subst h;have h1:(w.alloc x).heap[w.heap.size]? =some x:=by unfold World.alloc;simp
   exact ((allocs_keep r (w.alloc x)).block w.heap.size (by simp)).trans h1
 | x :: r,w,i+1,o,h=>by
   have:=allocs_at r (w.alloc x) i o (by simpa using h);rw [World.size_alloc] at this;rw [show w.heap.size+(i+1)=w.heap.size+1+i by omega];exact this
structure Turn(w w':World)(S:List Nat):Prop where
 os:w'.os=w.os
 tape:w'.tape=w.tape
 output:w'.output=w.output
 size:w.heap.size≤w'.heap.size
 block:∀ i,i<w.heap.size→i∉S→w'.heap[i]? =w.heap[i]?
section
variable {w w1 w2 w3:World} {S S':List Nat} {g:Nat} {T:TypeId} {vs:List Value}
theorem Turn.refl(w:World)(S:List Nat):Turn w w S:=⟨rfl,rfl,rfl,Nat.le_refl _,fun _ _ _=>rfl⟩
theorem Turn.keep(h:Keep w1 w2)(S:List Nat):Turn w1 w2 S:=⟨h.os,h.tape,h.output,h.size,fun i hi _=>h.block i hi⟩
theorem Turn.trans(h:Turn w1 w2 S)(k:Turn w2 w3 S):Turn w1 w3 S :=
 ⟨k.os.trans h.os,k.tape.trans h.tape,k.output.trans h.output,Nat.le_trans h.size k.size,fun i hi hs=>(k.block i (Nat.lt_of_lt_of_le hi h.size) hs).trans (h.block i hi hs)⟩
theorem Turn.mono(h:Turn w1 w2 S)(hs:∀ i,i∈S→i∈S'∨w1.heap.size≤i):Turn w1 w2 S' :=
 ⟨h.os,h.tape,h.output,h.size,fun i hi hn=>h.block i hi fun hm=>by rcases hs i hm with h1|h1;exact hn h1;omega⟩
theorem Turn.trans_up(h:Turn w1 w2 S)(k:Turn w2 w3 S')(hs:∀ i∈S',w1.heap.size≤i):Turn w1 w3 S :=
 ⟨k.os.trans h.os,k.tape.trans h.tape,k.output.trans h.output,Nat.le_trans h.size k.size,fun i hi hn=>(k.block i (Nat.lt_of_lt_of_le hi h.size) (fun hm=>by have:=hs i hm;omega)).trans (h.block i hi hn)⟩
theorem Turn.row(h:Turn w1 w2 S)(r:Row w1 g T vs)(hg:g∉S):Row w2 g T vs:=(h.block g r.lt hg).trans r
theorem Turn.set(w:World)(a:Addr)(u:Value):Turn w (w.setCell a u) [a.block] :=
 ⟨rfl,rfl,rfl,by simp,fun i _ hi=>by simp only [World.setCell,Array.getElem?_modify];rw [if_neg (fun e=>hi (by simp [e]))]⟩
theorem Turn.after(h:Keep w w1)(k:Turn w1 w2 S)(hs:∀ i∈S,w.heap.size≤i):Keep w w2 :=
 ⟨k.os.trans h.os,k.tape.trans h.tape,k.output.trans h.output,Nat.le_trans h.size k.size,fun i hi=>(k.block i (Nat.lt_of_lt_of_le hi h.size) (fun hm=>by have:=hs i hm;omega)).trans (h.block i hi)⟩
end
theorem Own.turn{α:Type}{w w':World}{base k:Nat}{e:TypeId}{enc:α→List Value}{v:Value}{xs:List α}{S:List Nat}(h:Own w base e k enc v xs)(ht:Turn w w' S)(hs:∀ i∈S,v.ownBlock≠some i):Own w' base e k enc v xs:=by
 refine ⟨h.1,?_⟩
 rcases h.2 with hn | ⟨g,cap,cur,rfl,hb,hg,rest⟩
 ·exact .inl hn
 ·exact .inr ⟨g,cap,cur,rfl,hb,(ht.block g (Array.getElem?_eq_some_iff.1 hg).1 (fun hm=>hs g hm rfl)).trans hg,rest⟩
theorem own_row_ne{α:Type}{w:World}{base k b:Nat}{e T:TypeId}{enc:α→List Value}{v:Value}{xs:List α}{vs:List Value}(h:Own w base e k enc v xs)(hr:Row w b T vs)(ht:T≠e):v.ownBlock≠some b:=by
 intro hb
 rcases h.2 with ⟨rfl,_⟩ | ⟨g,cap,cur,rfl,_,hg,_⟩
 ·cases hb
 ·have hq:g=b:=by simpa [Value.ownBlock] using hb
  subst hq;unfold Row at hr;rw [hr] at hg;simp at hg;exact ht hg.2
theorem hold_at(d:Nat){P:Program}{ops:Array Oper}{Q:Exit→Act→World→Prop}{rest:List Oper}{a:Act}{w:World}{op:Op}{ty:TypeId}{pos:String}{af:Array Edge}{gd:Option (Nat × Bool)}(h:Hid (wpList P ops Q (⟨some d,op,ty,pos,af,gd⟩ :: rest) a w)):wpList P ops Q (⟨some d,op,ty,pos,af,gd⟩ :: rest) a w:=h
theorem Row.sl_blk{α:Type}{w:World}{g k:Nat}{T:TypeId}{enc:α→List Value}{xs:List α}(hk:∀ x,(enc x).length=k)(h:Row w g T (xs.flatMap enc))(hl:xs.length≤140737488355328){c:Nat}(hc:xs.length≤c)(hc2:c≤9223372036854775807):Sl w k enc (some ⟨g,0,none⟩) c xs :=
 ⟨hc,hc2,hl,fun i hi=>⟨g,0,rfl,fun j u hu=>by
  have:=flat_get hk xs i j hi u hu
  simpa using h.cell _ u this⟩⟩
section
variable {α:Type} {w w':World} {base g n c:Nat} {e:TypeId} {enc:α→List Value} {f:α→Value} {xs:List α}
theorem flat1(hf:∀ x,enc x=[f x])(xs:List α):xs.flatMap enc=xs.map f:=by
 induction xs with
 | nil=>rfl
 | cons x r ih=>simp [hf,ih]
theorem Own.cell1(hf:∀ x,enc x=[f x])(h:Own w base e 1 enc (.slice (some ⟨g,0,none⟩) n c) xs)(hn:n=xs.length)(j:Nat)(hj:j<xs.length) :
 w.cell? ⟨g,j,none⟩=some (f xs[j])∧w.frozen? ⟨g,j,none⟩=false∧g<w.heap.size∧base≤g:=by
 rcases h.2 with ⟨h',_⟩ | ⟨g',cap',cur,h',hb,hg,hnc,hcm,hcs,htake⟩
 ·simp at h'
 ·simp only [Value.slice.injEq,Option.some.injEq,Addr.mk.injEq,and_true,true_and] at h';obtain ⟨rfl,_,_⟩:=h';refine ⟨?_,by simp [World.frozen?,hg],(Array.getElem?_eq_some_iff.1 hg).1,hb⟩;have h1:(xs.flatMap enc)[j]? =some (f xs[j]):=by rw [flat1 hf];simp [hj]
  rw [← htake,List.getElem?_take,if_pos (by omega)] at h1;simp only [World.cell?,hg,Option.isSome_none,Bool.false_eq_true,if_false]
  simpa using h1
theorem Own.set1(hf:∀ x,enc x=[f x])(h:Own w base e 1 enc (.slice (some ⟨g,0,none⟩) n c) xs)(hn:n=xs.length)(j:Nat)(x:α){u:Value}(hu:u=f x) :
 Own (w.setCell ⟨g,j,none⟩ u) base e 1 enc (.slice (some ⟨g,0,none⟩) n c) (xs.set j x):=by
 subst hn;subst hu;have:=(World.ownsRow.stored h j (f x)).1;unfold Zone.Own;rw [List.length_set,flat1 hf,List.map_set,← flat1 hf];exact this
theorem own_made1{P:Program}{t:TypeId}{i:TypeInfo}{z:α}(hf:∀ x,enc x=[f x])(hone:(f z).cells=#[f z])(ht:P.underlying t=some (.slice e))(hi:P.info? e=some i)(h1:i.zero=some (f z))(h2:i.size=1)(n base:Nat)(W:World)(hn:i.bytes*n≤281474976710656)(hm:n≤9223372036854775807)(hb:base≤W.heap.size) :
 ∃ W',(Instr.makeSlice t (.int .i64 (n:Int)) (.int .i64 (n:Int))).run P W=.ok (.slice (some ⟨W.heap.size,0,none⟩) n n) W'∧Own W' base e 1 enc (.slice (some ⟨W.heap.size,0,none⟩) n n) (List.replicate n z)∧Keep W W':=by
 obtain ⟨W',hr,ho,hg⟩:=run_make_full (P:=P) W base t e i (f z) 1 ht hi h1 h2 .i64 .i64 n hn (by unfold maxLen;omega) hb;refine ⟨W',hr,?_,⟨hg.os,hg.tape,hg.output,hg.size,fun k hk=>hg.block k hk (by simp)⟩⟩;unfold Zone.Own;rw [List.length_replicate,flat1 hf];have e1:(madeCells (f z).cells (n*1)).toList=(List.replicate n z).map f:=by
  apply List.ext_getElem
  ·simp [madeCells]
  ·intro i h1 h2;simp [madeCells,hone,Nat.mod_one]
 rw [e1] at ho;exact ho
end
end Go.Zone
namespace Go.Proofs.YtpkocnpamcchcaaGreatDoor
open Go.RowKit Go.Zone Go.Shelf
attribute [local go_sem] zone stepZ fill lookFs goes goesUpon dropFs cell_gro frozen_gro size_gro lt_add drew_gro tape_gro keep_refl
attribute [local go_sem] lt_add2 lt_add3 lt_add4 lt_add5 lt_add6 lt_add7 lt_add8 lt_add9 lt_add10 lt_add11 lt_add12
structure Rw where
 A:Option Addr
 c:Nat
 vs:List Val
def Rw.cells(r:Rw):List Value:=[.slice r.A r.vs.length r.c]
theorem rw_f(r:Rw):r.cells=[.slice r.A r.vs.length r.c]:=rfl
def RowsAt(w:World)(l:List Rw):Prop:=∀ r∈l,Sl w 3 Val.cells r.A r.c r.vs
theorem RowsAt.keep{w w':World}{l:List Rw}(h:RowsAt w l)(hk:Keep w w'):RowsAt w' l:=fun r hr=>(h r hr).keep hk
theorem sl_rw{w:World}{c:Nat}{A:Option Addr}{xs:List Rw}(h:Sl w 1 Rw.cells A c xs)(i:Nat)(hi:i<xs.length):∃ b off,A=some ⟨b,off,none⟩∧b<w.heap.size∧w.cell? ⟨b,off+i,none⟩=some (.slice xs[i].A xs[i].vs.length xs[i].c):=by
 obtain ⟨b,off,hA,hc⟩:=h.at_ i hi;have h0:=hc 0 _ rfl;rw [Nat.mul_one,Nat.add_zero] at h0;exact ⟨b,off,hA,World.block_lt_of_cell? w _ h0,h0⟩
theorem getD_lt{α:Type}(l:List α)(i:Nat)(d:α)(h:i<l.length):l.getD i d=l[i]:=by simp [h]
def kindT(c:Col):Int:=if c.kind=2 then 2 else 1
def badRow(cs:List Col)(r:List Val):Bool:=(r.length != cs.length)||r.any noMay
def oddTo(cs:List Col)(r:List Val)(k:Nat):Bool:=(List.range k).any fun i=>(r.getD i default).k != kindT (cs.getD i default)
def oddRow(cs:List Col)(r:List Val):Bool:=oddTo cs r r.length
noncomputable def tErr(cs:List Col)(rows:List (List Val)):Int:=if pB (MayP cs)=false then 2 else if rows.any (badRow cs) then 2 else if 16777216<rows.length then 3 else if rows.any (oddRow cs) then 9 else 0
theorem tkind_any(c:Col)(w:World):Calls Tryz.prog 103 #[c.v] w fun e w'=>e=.returned (.int .u8 (kindT c))∧Keep w w':=by
 obtain ⟨k,n⟩:=c;simp only [Col.v,kindT];go_enter Tryz.func103,Tryz.ntmps103;go_wp2
 all_goals go_ret
 all_goals exact ⟨by simp_all,(by repeat first|exact kp0|apply kp1|apply kp2|apply kp3|apply kp4)⟩
theorem oddTo_succ(cs:List Col)(r:List Val)(k:Nat):oddTo cs r (k+1)=(oddTo cs r k||((r.getD k default).k != kindT (cs.getD k default))):=by
 simp [oddTo,List.range_succ]
theorem any_take_succ{α:Type}(p:α→Bool)(l:List α)(k:Nat)(h:k<l.length):(l.take (k+1)).any p=((l.take k).any p||p l[k]):=by
 rw [List.take_succ_eq_append_getElem h,List.any_append,List.any_cons,List.any_nil,Bool.or_false]
theorem tmay_any(A B:Option Addr)(n m:Nat)(cs:List Col)(rows:List Rw)(w:World)(h:Sl w 2 Col.cells A n cs)(hz:∀ x∈cs,x.name.size≤140737488355328)(hr:Sl w 1 Rw.cells B m rows)(hs:RowsAt w rows) :
 Calls Tryz.prog 59 #[.slice A cs.length n,.slice B rows.length m] w fun e w'=>e=.returned (.int .i64 (tErr cs (rows.map (·.vs))))∧Keep w w':=by
 have HM:=lh (smay_any A n cs w h hz);have hl:=sl_len h;have hl2:=sl_len hr
 cases hq:pB (MayP cs)
 ·have HE:=lh (show tErr cs (rows.map (·.vs))=2 by unfold tErr;rw [if_pos hq]);rw [hq] at HM;clear h hr hs hq;go_enter Tryz.func59,Tryz.ntmps59;go_wp2_with (go_at_call 99;refine (HM.out).mono ?_;rintro e w' ⟨rfl,hk⟩;(first|obtain ⟨p,rfl⟩:=Zone.gro_of_gro _ _ hk|obtain ⟨p,rfl⟩:=Zone.gro_of_below _ hk);clear hk);go_ret;exact ⟨ret_int HE.out.symm,(by repeat first|exact kp0|apply kp1|apply kp2|apply kp3|apply kp4)⟩
 ·have HE:=lh (show tErr cs (rows.map (·.vs))=if rows.any (fun r=>badRow cs r.vs) then 2 else if 16777216<rows.length then 3 else if rows.any (fun r=>oddRow cs r.vs) then 9 else 0 by
   unfold tErr;rw [if_neg (by rw [hq];decide),List.any_map,List.any_map,List.length_map];rfl)
  rw [hq] at HM;have HC:=lh h;have HR:=lh hr;have HS:=lh hs;clear h hr hs hq;go_enter Tryz.func59,Tryz.ntmps59;go_wp2_with (go_at_call 99;refine (HM.out).mono ?_;rintro e w' ⟨rfl,hk⟩;(first|obtain ⟨p,rfl⟩:=Zone.gro_of_gro _ _ hk|obtain ⟨p,rfl⟩:=Zone.gro_of_below _ hk);clear hk);go_loopw [5,15] (fun o i wr=>∃ (k:Nat) (ob:Bool),k≤rows.length∧i=.int .i64 k∧o=.bool ob∧Hid (ob=(rows.take k).any (fun r=>oddRow cs r.vs))∧Hid ((rows.take k).any (fun r=>badRow cs r.vs)=false)∧Hid (Keep w wr)) (fun _ i _=>rows.length-(intOf i).toNat)
  case atStart=>exact ⟨0,false,Nat.zero_le _,rfl,rfl,(by show _=_;simp),(by show _=_;simp),(by repeat first|exact kp0|apply kp1|apply kp2|apply kp3|apply kp4)⟩
  case round =>
   obtain ⟨k,ob,hk,rfl,rfl,HOB,HBD,HK⟩:=hrel
   by_cases hlt:k<rows.length
   ·obtain ⟨b,off,hA,hb,h0⟩:=sl_rw (HR.out.keep HK.out) k hlt;have HSR:=lh (HS.out rows[k] (List.getElem_mem hlt));have HT:=lh (any_take_succ (fun r:Rw=>oddRow cs r.vs) rows k hlt);have HT2:=lh (any_take_succ (fun r:Rw=>badRow cs r.vs) rows k hlt);have HBR:=lh (show badRow cs rows[k].vs=true→rows.any (fun r=>badRow cs r.vs)=true from fun h=>List.any_eq_true.2 ⟨rows[k],List.getElem_mem hlt,h⟩);subst hA;generalize rows[k]=r at h0 HSR HT HT2 HBR;obtain ⟨rA,rc,vs⟩:=r;simp only at h0 HSR HT HT2 HBR
    by_cases hln:vs.length=cs.length
    ·have hd:((vs.length:Int) != (cs.length:Int))=false:=by simp [hln]
     have HLN:=lh hln;clear hln;go_wp2;go_loopw [5,26] (fun o i wr=>∃ (j:Nat) (o2:Bool),j≤vs.length∧i=.int .i64 j∧o=.bool o2∧Hid (o2=(ob||oddTo cs vs j))∧Hid ((vs.take j).any noMay=false)∧Hid (Keep w wr)) (fun _ i _=>vs.length-(intOf i).toNat)
     case atStart=>exact ⟨0,ob,Nat.zero_le _,rfl,rfl,(by show _=_;simp [oddTo]),(by show _=_;simp),HK.out⟩
     case round =>
         rename Bool=>ob1;obtain ⟨j,o2,hj,rfl,rfl,HO2,HN2,HK2⟩:=hrel
         by_cases hjt:j<vs.length
         ·obtain ⟨b2,off2,hA2,hb2,c0,c1,c2⟩:=sl_val (HSR.out.keep HK2.out) j hjt;obtain ⟨b3,off3,hA3,hb3,d0,d1⟩:=sl_col (HC.out.keep HK2.out) j (by rw [← HLN.out];exact hjt);have hjt2:j<cs.length:=by rw [← HLN.out];exact hjt
          have HT3:=lh (any_take_succ noMay vs j hjt);have HT4:=lh (show noMay vs[j]=true→vs.any noMay=true from fun h=>List.any_eq_true.2 ⟨vs[j],List.getElem_mem hjt,h⟩);have HT5:=lh (show oddTo cs vs (j+1)=(oddTo cs vs j||(vs[j].k != kindT cs[j])) by
           rw [oddTo_succ,getD_lt _ _ _ hjt,getD_lt _ _ _ hjt2])
          subst hA2;subst hA3;generalize vs[j]=x at c0 c1 c2 HT3 HT4 HT5;generalize cs[j]=cl at d0 d1 HT5;obtain ⟨xk,xn,xs⟩:=x;obtain ⟨cn,ck⟩:=cl;simp only at c0 c1 c2 d0 d1 HT5;have HMV:=lh (may_any ⟨xk,xn,xs⟩);have HTK:=lh (tkind_any ⟨cn,ck⟩)
          cases hmv:mayV ⟨xk,xn,xs⟩
          ·rw [hmv] at HMV;have HMV2:=lh hmv;clear hmv;go_wp2_with (go_at_call 102;refine (HMV.out _).mono ?_;rintro e w' ⟨rfl,hk⟩;(first|obtain ⟨p,rfl⟩:=Zone.gro_of_gro _ _ hk|obtain ⟨p,rfl⟩:=Zone.gro_of_below _ hk);clear hk);go_ret;exact ⟨ret_int (by rw [HE.out,if_pos (HBR.out (by simp [badRow,HT4.out (by simp [noMay,HMV2.out])]))]),HK2.out.trans (by repeat first|exact kp0|apply kp1|apply kp2|apply kp3|apply kp4)⟩
          ·rw [hmv] at HMV;have HMV2:=lh hmv;clear hmv;generalize kindT ⟨cn,ck⟩=kt at HTK HT5
           cases o2
           ·go_upto_region 14 with (go_at_call 102;refine (HMV.out _).mono ?_;rintro e w' ⟨rfl,hk⟩;(first|obtain ⟨p,rfl⟩:=Zone.gro_of_gro _ _ hk|obtain ⟨p,rfl⟩:=Zone.gro_of_below _ hk);clear hk);go_region_with (go_at_call 103;refine (HTK.out _).mono ?_;rintro e w' ⟨rfl,hk⟩;(first|obtain ⟨p,rfl⟩:=Zone.gro_of_gro _ _ hk|obtain ⟨p,rfl⟩:=Zone.gro_of_below _ hk);clear hk)
            all_goals
             go_wp2;go_roundw
             case rel=>exact ⟨j+1,_,by omega,by go_num,rfl,(by show _=_;rw [HT5.out,← Bool.or_assoc,← HO2.out];simp),(by show _=_;rw [HT3.out,HN2.out];simp [noMay,HMV2.out]),HK2.out.trans (by repeat first|exact kp0|apply kp1|apply kp2|apply kp3|apply kp4)⟩
             case measure=>simp [intOf];omega
           ·go_upto_region 14 with (go_at_call 102;refine (HMV.out _).mono ?_;rintro e w' ⟨rfl,hk⟩;(first|obtain ⟨p,rfl⟩:=Zone.gro_of_gro _ _ hk|obtain ⟨p,rfl⟩:=Zone.gro_of_below _ hk);clear hk);go_region
            all_goals
             go_wp2;go_roundw
             case rel=>exact ⟨j+1,_,by omega,by go_num,rfl,(by show _=_;rw [HT5.out,← Bool.or_assoc,← HO2.out];simp),(by show _=_;rw [HT3.out,HN2.out];simp [noMay,HMV2.out]),HK2.out.trans (by repeat first|exact kp0|apply kp1|apply kp2|apply kp3|apply kp4)⟩
             case measure=>simp [intOf];omega
         ·have hjl:j=vs.length:=by omega
          subst hjl;rw [List.take_length] at HN2;go_wp2;go_roundw
          case rel=>exact ⟨k+1,o2,by omega,by go_num,rfl,(by show _=_;rw [HT.out,HO2.out,HOB.out];rfl),(by show _=_;rw [HT2.out,HBD.out];simp [badRow,HN2.out,HLN.out]),HK2.out⟩
          case measure=>simp [intOf];omega
    ·have hd:((vs.length:Int) != (cs.length:Int))=true:=by simp;omega
     go_wp2;go_ret;exact ⟨ret_int (by rw [HE.out,if_pos (HBR.out (by simp [badRow,hln]))]),HK.out⟩
   ·have hkl:k=rows.length:=by omega
    subst hkl;rw [List.take_length] at HOB HBD
    by_cases hl16:16777216<rows.length
    ·have hd:decide ((16777216:Int)<(rows.length:Int))=true:=by simp;omega
     have hl16':(16777216:Int)<(rows.length:Int):=by omega
     go_wp2;go_ret;exact ⟨ret_int (by rw [HE.out,HBD.out,if_neg (by decide),if_pos hl16]),HK.out⟩
    ·have hd:decide ((16777216:Int)<(rows.length:Int))=false:=by simp;omega
     cases ob
     ·go_wp2;go_ret;exact ⟨ret_int (by rw [HE.out,HBD.out,if_neg (by decide),if_neg hl16,← HOB.out,if_neg (by decide)]),HK.out⟩
     ·go_wp2;go_ret;exact ⟨ret_int (by rw [HE.out,HBD.out,if_neg (by decide),if_neg hl16,← HOB.out,if_pos rfl]),HK.out⟩
end Go.Proofs.YtpkocnpamcchcaaGreatDoor
namespace Go.Proofs.YtpkocnpamcchcaaGreatDoor
open Go.RowKit Go.Zone Go.ChangeShapes Go.WideShapes Go.Deep Go.Joins Go.ChangeMaps
section
variable {H:Type} {enc:TypeId × Value→H} {w:World} {held:Bool}
theorem spot_none{a:Addr}{v:Value}(h:w.cell? a=some v):a.spot=none:=by
 unfold World.cell? at h
 split at h
 ·split at h
  ·cases h
  ·rename_i hq;simpa using hq
 ·cases h
theorem add_spot{a:Addr}(h:a.spot=none)(n:Nat):a.add n=⟨a.block,a.off+n,none⟩:=by
 obtain ⟨ab,ao,asp⟩:=a;simp only at h;subst h;unfold Addr.add
 split
 ·rename_i h;subst h;rfl
 ·rfl
theorem sl_vals{v:Value}{d:DataW H}{ps:List MemPlace}{fuel:Nat}(hf:DataW.trod enc Tryz.prog w 0 (fun _=>true) held fuel 56 [v]=some (d,ps))(hz:∀ n∈d.weights Tryz.prog 56,n≤reachBytes) :
 ∃ A c xs,v=.slice A xs.length c∧Sl w 3 Val.cells A c xs∧∀ x∈xs,WfV x:=by
 obtain ⟨f0,f1,f2,hs,hone,t0,t1,t2⟩:=u_val;have hrb:=reachBytes_lt
 rcases open_slice_fields u_vals hs hone c_val hf with ⟨h0,_⟩ | ⟨a,len,cap,m,D,Pl,h0,hb',hl,hm,hmm,hx,hi⟩
 ·simp only [List.cons.injEq,and_true] at h0;exact ⟨none,0,[],h0,Sl.nil_ _ (by omega),fun _ h=>by cases h⟩
 ·simp only [List.cons.injEq,and_true] at h0;simp only [Prod.mk.injEq] at hx;obtain ⟨xs,hxl,hxs⟩:=choose_list (Q:=fun i (x:Val)=>WfV x∧w.cell? (a.add (i*3))=some (.int .u8 x.k)∧w.cell? (a.add (i*3+1))=some (.int .i64 x.n)∧w.cell? (a.add (i*3+2))=some (.string x.s)) len fun i hil=>by
   obtain ⟨ys,n,_,_,_,hff⟩:=hi i (by rw [hmm];split<;>omega);obtain ⟨v0,y0,c0,_,r0⟩:=hff 0 f0 rfl;obtain ⟨v1,y1,c1,_,r1⟩:=hff 1 f1 rfl;obtain ⟨v2,y2,c2,_,r2⟩:=hff 2 f2 rfl;obtain ⟨k,e0,_,wk⟩:=DataW.trod_int t0 r0;obtain ⟨n',e1,_,wn⟩:=DataW.trod_int t1 r1;obtain ⟨s,e2,_,ws⟩:=DataW.trod_string t2 r2
   cases e0;cases e1;cases e2
   exact ⟨⟨k,n',s⟩,⟨wk,wn,ws⟩,c0,c1,c2⟩
  have hw2:len*Tryz.prog.bytesOf 72≤reachBytes:=by
   have:=hz ((len+(m-len))*Tryz.prog.bytesOf 72) (by rw [hx.1];simp [DataW.weights,u_vals]);exact Nat.le_trans (Nat.mul_le_mul_right _ (by omega)) this
  rw [show Tryz.prog.bytesOf 72=32 by kernel_rfl] at hw2;subst hxl;refine ⟨some a,cap,xs,h0,⟨hl,by unfold maxLen at hm;omega,by omega,fun i hil=>?_⟩,fun x hx=>?_⟩
  ·obtain ⟨_,c0,c1,c2⟩:=hxs i hil;have hsp:a.spot=none:=by
    obtain ⟨_,d0,_,_⟩:=hxs 0 (by omega);simp only [Nat.zero_mul,Addr.add,if_true] at d0;exact spot_none d0
   rw [add_spot hsp] at c0 c1 c2;refine ⟨a.block,a.off,by obtain ⟨ab,ao,asp⟩:=a;simp only at hsp;subst hsp;rfl,fun j u hu=>?_⟩
   match j,hu with
   | 0,hu=>cases hu;exact c0
   | 1,hu=>cases hu;exact c1
   | 2,hu=>cases hu;exact c2
  ·obtain ⟨i,hil,rfl⟩:=List.getElem_of_mem hx;exact (hxs i hil).1
theorem u_rows:Tryz.prog.underlying 27=some (.slice 56):=by kernel_rfl
theorem c_row:Tryz.prog.cellsOf 56=1:=by kernel_rfl
theorem open_rows{b0:Nat}{r:Reach}{v:Value}{d:DataW H}{ps:List MemPlace}(hv:Value.okWide Tryz.prog w r b0 27 v)(h:DataW.Trod enc Tryz.prog w 0 (fun _=>true) held 27 v d ps)
 (hz:∀ n∈d.weights Tryz.prog 27,n≤reachBytes) :
 ∃ A c rows,v=.slice A rows.length c∧Sl w 1 Rw.cells A c rows∧RowsAt w rows∧∀ r∈rows,∀ x∈r.vs,WfV x:=by
 have hrb:=reachBytes_lt;obtain ⟨fuel,hf⟩:=h;have hcs:v.cells.toList=[v]:=by
  simp only [Value.okWide,u_rows] at hv
  cases v<;>simp_all [Cell.okWide,Cell.ok,u_rows,Value.cells]
 rw [hcs] at hf
 rcases open_slice u_rows hf with ⟨h0,_⟩ | ⟨a,len,cap,m,n,D,Pl,h0,hb',hl,hm,hmm,hx,hi⟩
 ·simp only [List.cons.injEq,and_true] at h0;exact ⟨none,0,[],h0,Sl.nil_ _ (by omega),fun _ h=>(by cases h),fun _ h=>by cases h⟩
 ·simp only [List.cons.injEq,and_true] at h0;have hd:d=.slice ((List.range len).map D) ((List.range (m-len)).map fun j=>D (len+j)):=(Prod.mk.inj hx).1;have hw1:∀ i,i<len→∀ n∈(D i).weights Tryz.prog 56,n≤reachBytes:=fun i hi n hn=>hz n (by
   rw [hd];simp only [DataW.weights,u_rows,List.mem_cons,List.mem_append];exact .inr (.inl (weights_all (List.mem_map.2 ⟨i,List.mem_range.2 hi,rfl⟩) hn)))
  have hw2:len*Tryz.prog.bytesOf 56≤reachBytes:=by
   have:=hz ((len+(m-len))*Tryz.prog.bytesOf 56) (by rw [hd];simp [DataW.weights,u_rows]);exact Nat.le_trans (Nat.mul_le_mul_right _ (by omega)) this
  rw [show Tryz.prog.bytesOf 56=24 by kernel_rfl] at hw2;obtain ⟨rows,hkl,hks⟩:=choose_list (Q:=fun i (q:Rw)=>w.cell? (a.add i)=some (.slice q.A q.vs.length q.c)∧Sl w 3 Val.cells q.A q.c q.vs∧∀ x∈q.vs,WfV x) len fun i hil=>by
   obtain ⟨cs',hc,ht⟩:=hi i (by rw [hmm];split<;>omega);rw [c_row] at hc;obtain ⟨_,hcl,hat⟩:=World.cells?_some hc
   match cs',hcl with
   | [u],_ =>
     obtain ⟨A,c,xs,rfl,hs,hwf⟩:=sl_vals (d:=D i) (ps:=Pl i) ht (hw1 i hil);refine ⟨⟨A,c,xs⟩,?_,hs,hwf⟩;have h1:=hat 0 (by omega);rw [Nat.mul_one,Go.Deep.add_add,Nat.add_zero] at h1;exact h1
  subst hkl;refine ⟨some a,cap,rows,h0,⟨hl,by unfold maxLen at hm;omega,by omega,fun i hil=>?_⟩,fun q hq=>?_,fun q hq=>?_⟩
  ·have hsp:a.spot=none:=by
    have:=(hks 0 (by omega)).1;simp only [Addr.add,if_true] at this;exact spot_none this
   refine ⟨a.block,a.off,by obtain ⟨ab,ao,asp⟩:=a;simp only at hsp;subst hsp;rfl,fun j u hu=>?_⟩;have:=(hks i hil).1;rw [add_spot hsp] at this
   match j,hu with
   | 0,hu=>cases hu;rw [Nat.mul_one,Nat.add_zero];exact this
  ·obtain ⟨i,hil,rfl⟩:=List.getElem_of_mem hq;exact (hks i hil).2.1
  ·obtain ⟨i,hil,rfl⟩:=List.getElem_of_mem hq;exact (hks i hil).2.2
end
end Go.Proofs.YtpkocnpamcchcaaGreatDoor
namespace Go.Proofs.YtpkocnpamcchcaaGreatDoor
open Go.RowKit Go.Zone Go.Shelf
attribute [local go_sem] zone stepZ fill lookFs goes goesUpon dropFs cell_gro frozen_gro size_gro lt_add drew_gro tape_gro keep_refl
attribute [local go_sem high] run_eq_val run_ne_val run_eqG_val
def pl(a:List Val × Bool):Nat:=if a.2 then a.1.length else a.1.length+1
def putAll(xs:List Val):List Val:=xs.foldl putV []
end Go.Proofs.YtpkocnpamcchcaaGreatDoor
namespace Go.Proofs.YtpkocnpamcchcaaGreatDoor
open Go.RowKit Go.Zone Go.Shelf
attribute [local go_sem] zone stepZ fill lookFs goes goesUpon dropFs cell_gro frozen_gro size_gro lt_add drew_gro tape_gro keep_refl
def lower(xs:List Val)(v:Val):Nat:=(xs.takeWhile fun x=>decide (cmpV x v<0)).length
theorem lower_eq:∀ (xs:List Val) (v:Val) (n:Nat),n≤xs.length→(∀ j,(h:j<xs.length)→j<n→cmpV xs[j] v<0)→((h:n<xs.length)→0≤cmpV xs[n] v)→lower xs v=n
 | [],_,n,hn,_,_=>by have:n=0:=by simpa using hn
                     subst this;rfl
 | x :: r,v,0,_,_,h=>by
   have:=h (by simp);simp only [List.getElem_cons_zero] at this;simp [lower,this]
 | x :: r,v,n+1,hn,h1,h2=>by
   have h0:=h1 0 (by simp) (by omega);simp only [List.getElem_cons_zero] at h0;have ih:=lower_eq r v n (by simpa using hn) (fun j hj hjn=>by have:=h1 (j+1) (by simpa using hj) (by omega);simpa using this) (fun h=>by have:=h2 (by simpa using h);simpa using this);unfold lower at ih ⊢;simp [h0,ih]
def hits(xs:List Val)(v:Val):Bool:=match xs[lower xs v]? with|some x=>cmpV x v==0|none=>false
theorem search_any(A:Option Addr)(c:Nat)(xs:List Val)(v:Val)(w:World)(h:Sl w 3 Val.cells A c xs)(hm:∀ i j,(hi:i<xs.length)→(hj:j<xs.length)→i≤j→cmpV xs[j] v<0→cmpV xs[i] v<0) :
 Calls Tryz.prog 121 #[.slice A xs.length c,v.v,.func (.func 63) #[] #[]] w fun e w'=>e=.returned (.tuple #[.int .i64 (lower xs v),.bool (hits xs v)])∧Keep w w':=by
 have HM:=lh hm;clear hm;have hlen:=h.len;have hcall:=fun (x:Val) W=>compare_any x v W;have HL:=lh (lower_eq xs v);obtain ⟨k0,n0,s0⟩:=v;have HC:=lh hcall;clear hcall;go_enter Tryz.func121,Tryz.ntmps121;go_wp2;go_loopw [9,10] (fun vi vj wr=>∃ (i j:Nat),i≤j∧j≤xs.length∧vi=.int .i64 i∧vj=.int .i64 j∧Hid (Keep w wr)∧Hid (∀ a,(h:a<xs.length)→a<i→cmpV xs[a] ⟨k0,n0,s0⟩<0)∧Hid (∀ a,(h:a<xs.length)→j≤a→0≤cmpV xs[a] ⟨k0,n0,s0⟩) ∧
  w.heap.size<wr.heap.size∧wr.cell? ⟨w.heap.size,0,none⟩=some (.int .u8 k0)∧wr.cell? ⟨w.heap.size,1,none⟩=some (.int .i64 n0)∧wr.cell? ⟨w.heap.size,2,none⟩=some (.string s0)) (fun vi vj _=>(intOf vj).toNat-(intOf vi).toNat)
 case atStart=>exact ⟨0,xs.length,Nat.zero_le _,Nat.le_refl _,rfl,rfl,(by repeat first|exact kp0|apply kp1|apply kp2|apply kp3|apply kp4),fun a _ ha=>absurd ha (Nat.not_lt_zero _),fun a h1 h2=>absurd h1 (by omega),by simp,by simp [go_sem],by simp [go_sem],by simp [go_sem]⟩
 case round =>
  obtain ⟨i,j,hij,hj,rfl,rfl,HK,HA,HB,hz,b0,b1,b2⟩:=hrel
  by_cases hlt:i<j
  ·go_wp2;obtain ⟨m,hme⟩:∃ m:Nat,((i:Int)+(j:Int))/2=m:=⟨(i+j)/2,by omega⟩;simp only [hme];have hm1:i≤m:=by omega
   have hm2:m<j:=by omega
   clear hme;have hml:m<xs.length:=by omega
   obtain ⟨bx,off,rfl,hbx,c0,c1,c2⟩:=sl_val (h.keep HK.out) m hml;have hcm:=fun W=>HC.out xs[m] W;have HMono:=lh (fun a (ha:a<xs.length) (hm:a≤m)=>HM.out a m ha hml hm);have HMono2:=lh (fun a (ha:a<xs.length) (hm:m≤a)=>HM.out m a hml ha hm);generalize hq:cmpV xs[m] ⟨k0,n0,s0⟩=q at hcm HMono HMono2;have HQ:=lh hq;clear hq;have HCM:=lh hcm;clear hcm
   by_cases hq0:q<0
   ·first|refine Zone.wp_region_all_gro (by kernel_rfl) (by kernel_rfl) ?_|refine Zone.wp_region_all (by kernel_rfl) (by kernel_rfl) ?_
    repeat
     refine Zone.wpZ_step (fun K hK=>?_);go_simp
     first
     | (refine hK _ _ ?_;clear hK K)
     | (apply Exists.intro
        refine ⟨fun p=>?_,hK _ _ ?_⟩
        ((go_at_call 63;exact Zone.zc (HCM.out _)))
        clear hK K)
    refine Zone.wpZ_nil ?_;intro p;simp only [Zone.fill];go_wp2;go_roundw
    case rel=>exact ⟨m+1,j,by omega,hj,by go_num,rfl,HK.out.gro _,fun a ha hai=>HMono.out a ha (by omega) hq0,HB.out,by simp [size_gro];omega,by simp [cell_gro,hz,b0],by simp [cell_gro,hz,b1],by simp [cell_gro,hz,b2]⟩
    case measure=>simp [intOf];omega
   ·first|refine Zone.wp_region_all_gro (by kernel_rfl) (by kernel_rfl) ?_|refine Zone.wp_region_all (by kernel_rfl) (by kernel_rfl) ?_
    repeat
     refine Zone.wpZ_step (fun K hK=>?_);go_simp
     first
     | (refine hK _ _ ?_;clear hK K)
     | (apply Exists.intro
        refine ⟨fun p=>?_,hK _ _ ?_⟩
        ((go_at_call 63;exact Zone.zc (HCM.out _)))
        clear hK K)
    refine Zone.wpZ_nil ?_;intro p;simp only [Zone.fill];go_wp2;go_roundw
    case rel=>exact ⟨i,m,hm1,by omega,rfl,rfl,HK.out.gro _,HA.out,fun a ha hai=>by
     have:=HMono2.out a ha hai
     rcases Int.lt_or_le (cmpV xs[a] ⟨k0,n0,s0⟩) 0 with h0|h0
     ·exact absurd (this h0) hq0
     ·exact h0,by simp [size_gro];omega,by simp [cell_gro,hz,b0],by simp [cell_gro,hz,b1],by simp [cell_gro,hz,b2]⟩
    case measure=>simp [intOf];omega
  ·have hlow:=HL.out i (by omega) HA.out (fun hi=>HB.out i hi (by omega));have HH:Hid (hits xs ⟨k0,n0,s0⟩=match xs[i]? with|some x=>cmpV x ⟨k0,n0,s0⟩==0|none=>false):=by
    show _=_;unfold hits;rw [hlow]
   have HLW:=lh hlow;clear hlow;clear HL HM
   by_cases hil:i<xs.length
   ·obtain ⟨bx,off,rfl,hbx,c0,c1,c2⟩:=sl_val (h.keep HK.out) i hil;have hcm:=fun W=>HC.out xs[i] W;have HH2:Hid (hits xs ⟨k0,n0,s0⟩=(cmpV xs[i] ⟨k0,n0,s0⟩==0)):=by
     show _=_;rw [HH.out,List.getElem?_eq_getElem hil]
    clear HH;generalize cmpV xs[i] ⟨k0,n0,s0⟩=q at hcm HH2;have HCM:=lh hcm;clear hcm;go_wp2
    first|refine Zone.wp_region_all_gro (by kernel_rfl) (by kernel_rfl) ?_|refine Zone.wp_region_all (by kernel_rfl) (by kernel_rfl) ?_
    repeat
     refine Zone.wpZ_step (fun K hK=>?_);go_simp
     first
     | (refine hK _ _ ?_;clear hK K)
     | (apply Exists.intro
        refine ⟨fun p=>?_,hK _ _ ?_⟩
        ((go_at_call 63;exact Zone.zc (HCM.out _)))
        clear hK K)
    refine Zone.wpZ_nil ?_;intro p;simp only [Zone.fill];go_wp2;go_ret2;exact ⟨by rw [HLW.out,HH2.out];rfl,HK.out.gro _⟩
   ·have HH2:Hid (hits xs ⟨k0,n0,s0⟩=false):=by
     show _=_;rw [HH.out,List.getElem?_eq_none (by omega)]
    go_wp2
    first|refine Zone.wp_region_all_gro (by kernel_rfl) (by kernel_rfl) ?_|refine Zone.wp_region_all (by kernel_rfl) (by kernel_rfl) ?_
    repeat
     refine Zone.wpZ_step (fun K hK=>?_);go_simp
     first
     | (refine hK _ _ ?_;clear hK K)
     | (apply Exists.intro
        refine ⟨fun p=>?_,hK _ _ ?_⟩
        ((go_at_call 63;exact Zone.zc (HC.out _ _)))
        clear hK K)
    refine Zone.wpZ_nil ?_;intro p;simp only [Zone.fill];go_wp2;go_ret2;exact ⟨by rw [HLW.out,HH2.out];rfl,HK.out.gro _⟩
attribute [local go_sem high] run_eq_val run_ne_val run_eqG_val
end Go.Proofs.YtpkocnpamcchcaaGreatDoor
namespace Go.Proofs.YtpkocnpamcchcaaGreatDoor
open Go.RowKit Go.Zone Go.Shelf
attribute [local go_sem] zone stepZ fill lookFs goes goesUpon dropFs cell_gro frozen_gro size_gro lt_add drew_gro tape_gro keep_refl
section
variable {b:Nat} {kind:Int} {A:Option Addr} {c:Nat} {xs:List Val}
theorem none_at(w:World)(h:DictAt w b kind A c xs):Calls Tryz.prog 120 #[.pointer (some ⟨b,0,none⟩)] w fun e w'=>e=.returned (.bool (kind==0))∧w=w':=by
 have h0:=h.k;clear h;go_enter Tryz.func120,Tryz.ntmps120;go_wp2;go_ret;exact ⟨rfl,rfl⟩
theorem len_at(w:World)(h:DictAt w b kind A c xs):Calls Tryz.prog 73 #[.pointer (some ⟨b,0,none⟩)] w fun e w'=>e=.returned (.int .i64 (if kind=0 then 0 else xs.length))∧w=w':=by
 have h1:=h.l;have hn:=none_at w h;clear h
 by_cases hk:kind=0
 ·rw [if_pos hk];rw [show (kind==0)=true by simp [hk]] at hn;have HN:=lh hn;clear hn hk;go_enter Tryz.func73,Tryz.ntmps73;go_wp2_with (go_at_call 120;refine (HN.out).mono ?_;rintro e w' ⟨rfl,rfl⟩);go_ret;exact ⟨rfl,rfl⟩
 ·rw [if_neg hk];rw [show (kind==0)=false by simp [hk]] at hn;have HN:=lh hn;clear hn hk;go_enter Tryz.func73,Tryz.ntmps73;go_wp2_with (go_at_call 120;refine (HN.out).mono ?_;rintro e w' ⟨rfl,rfl⟩);go_ret;exact ⟨rfl,rfl⟩
def zeroVal:Val:=⟨0,0,⟨#[]⟩⟩
theorem mono_of(hs:xs.Pairwise LtV)(v:Val):∀ i j,(hi:i<xs.length)→(hj:j<xs.length)→i≤j→cmpV xs[j] v<0→cmpV xs[i] v<0:=fun i j hi hj hij h=>by
 rw [cmpV_lt] at *
 rcases Nat.lt_or_ge i j with h1|h1
 ·exact (List.pairwise_iff_getElem.1 hs i j hi hj h1).trans h
 ·have:i=j:=by omega
  subst this;exact h
def findV(kind:Int)(xs:List Val)(v:Val):Int × Bool:=if kind=0 then (0,false) else if hits xs v then (lower xs v,true) else (0,false)
theorem ret_ib{a a':Int}{x x':Bool}(h:(a,x)=(a',x')):Ending.returned (.tuple #[.int .i64 a,.bool x])=.returned (.tuple #[.int .i64 a',.bool x']):=by
 simp only [Prod.mk.injEq] at h;obtain ⟨rfl,rfl⟩:=h;rfl
theorem find_at(v:Val)(w:World)(h:DictAt w b kind A c xs)(hs:xs.Pairwise LtV):Calls Tryz.prog 72 #[.pointer (some ⟨b,0,none⟩),v.v] w fun e w'=>e=.returned (.tuple #[.int .i64 (findV kind xs v).1,.bool (findV kind xs v).2])∧Keep w w':=by
 have hse:=fun W (hW:Keep w W)=>search_any A c xs v W (h.sl.keep hW) (mono_of hs v);generalize hR:findV kind xs v=R;have h1:=h.l;have hb:=h.lt
 by_cases hk:kind=0
 ·have hr:R=(0,false):=by rw [← hR];simp [findV,hk]
  have HR:=lh hr;subst hk;have HN:=lh (fun W (hW:Keep w W)=>none_at W (h.keep hW));obtain ⟨k,n,s⟩:=v;clear h hr hR h1 hse;go_enter Tryz.func72,Tryz.ntmps72;go_wp2_with (go_at_call 120;refine (HN.out _ (by repeat first|exact kp0|apply kp1|apply kp2|apply kp3|apply kp4)).mono ?_;rintro e w' ⟨rfl,rfl⟩);go_ret2;exact ⟨ret_ib HR.out.symm,(by repeat first|exact kp0|apply kp1|apply kp2|apply kp3|apply kp4)⟩
 ·have hr:R=if hits xs v then ((lower xs v:Int),true) else (0,false):=by rw [← hR];simp [findV,hk]
  have HR:=lh hr;have HN:=lh (fun W (hW:Keep w W)=>by have:=none_at W (h.keep hW);rw [show (kind==0)=false by simp [hk]] at this;exact this);generalize hits xs v=q at hse HR;generalize lower xs v=l at hse HR;obtain ⟨k,n,s⟩:=v;have HS:=lh hse;clear h hr hR hse
  cases q
  all_goals
   go_enter Tryz.func72,Tryz.ntmps72;go_wp2_with (go_at_call 120;refine (HN.out _ (by repeat first|exact kp0|apply kp1|apply kp2|apply kp3|apply kp4)).mono ?_;rintro e w' ⟨rfl,rfl⟩)
   first|refine Zone.wp_region_all_gro (by kernel_rfl) (by kernel_rfl) ?_|refine Zone.wp_region_all (by kernel_rfl) (by kernel_rfl) ?_
   repeat
    refine Zone.wpZ_step (fun K hK=>?_);go_simp
    first
    | (refine hK _ _ ?_;clear hK K)
    | (apply Exists.intro
       refine ⟨fun p=>?_,hK _ _ ?_⟩
       ((go_at_call 121;exact Zone.zc (HS.out _ (by repeat first|exact kp0|apply kp1|apply kp2|apply kp3|apply kp4))))
       clear hK K)
   refine Zone.wpZ_nil ?_;intro p;simp only [Zone.fill];go_wp2;go_ret2;exact ⟨ret_ib HR.out.symm,(by repeat first|exact kp0|apply kp1|apply kp2|apply kp3|apply kp4)⟩
end
end Go.Proofs.YtpkocnpamcchcaaGreatDoor
