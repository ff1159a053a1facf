/- Parts of the proof. -/
import Derived.Test.YtpkocnpamcchcaaGreatDoorK32
set_option maxRecDepth 100000
set_option maxHeartbeats 4000000
set_option linter.unusedSimpArgs false
set_option linter.unusedVariables false
set_option linter.unnecessarySimpa false
namespace Go.Star
section
variable {g:Nat→Nat→List SR→Nat→List SR × List SN} {d tp n:Nat}
theorem loop_step(f at_ e m:Nat)(kids:List (Int × Nat))(rs:List SR)(ns:List SN)(id:Int)(h:at_<tp)(hid:id=idAt rs at_ d)(he:e=endF rs d id tp (tp-at_) at_)(hm:m=n+1+ns.length):loopF g d tp n (f+1) at_ kids rs ns=loopF g d tp n f e (kids++[(id,m)]) (g at_ e rs m).1 (ns++(g at_ e rs m).2):=by
 subst hid he hm
 conv=>lhs;unfold loopF
 rw [if_pos h]
theorem loop_end(f at_:Nat)(kids:List (Int × Nat))(rs:List SR)(ns:List SN)(h:tp≤at_):loopF g d tp n f at_ kids rs ns=(kids,rs,ns):=by
 cases f with
 | zero=>rfl
 | succ f=>unfold loopF;rw [if_neg (by omega)]
end
theorem grow_leaf(leaf f depth lo hi n:Nat)(st:Bool)(rs:List SR)(h:f=0∨hi-lo≤leaf):growF leaf f depth lo hi st rs n=(rs,[⟨depth,lo,hi,[]⟩]):=by
 cases f with
 | zero=>rfl
 | succ f=>unfold growF;rw [if_pos (by rcases h with h|h; · cases h
                                       ·exact h)]
theorem grow_starred(leaf f depth lo hi n:Nat)(rs:List SR)(h:¬ hi-lo≤leaf){ks:List (Int × Nat)}{rs':List SR}{ns:List SN}(hl:loopF (fun a e rs n=>growF leaf f (depth+1) a e true rs n) depth hi n (hi-lo) lo [] rs []=(ks,rs',ns)):growF leaf (f+1) depth lo hi true rs n=(rs',⟨depth,lo,hi,ks⟩ :: ns):=by
 unfold growF;rw [if_neg h,hl];rfl
theorem grow_plain(leaf f depth lo hi n:Nat)(rs:List SR)(h:¬ hi-lo≤leaf){ks:List (Int × Nat)}{rs':List SR}{ns:List SN}(hl:loopF (fun a e rs n=>growF leaf f (depth+1) a e false rs n) depth hi n (hi-lo) lo [] rs []=(ks,rs',ns)){l:List SR}(htl:l=togF ((cutR rs' lo hi).map (starR depth))){b e m:Nat}(hb:b=rs'.length)(he:e=rs'.length+l.length)(hm:m=n+1+ns.length) :
 growF leaf (f+1) depth lo hi false rs n=((growF leaf f (depth+1) b e true (rs'++l) m).1,⟨depth,lo,hi,ks++[(-1,m)]⟩ :: (ns++(growF leaf f (depth+1) b e true (rs'++l) m).2)):=by
 subst hb he hm htl
 conv=>lhs;unfold growF
 rw [if_neg h,hl];rfl
theorem grow_ge(leaf f depth lo hi n:Nat)(st:Bool)(rs:List SR)(h:¬ hi-lo≤leaf){ks:List (Int × Nat)}{rs':List SR}{ns:List SN}(hl:loopF (fun a e rs n=>growF leaf f (depth+1) a e st rs n) depth hi n (hi-lo) lo [] rs []=(ks,rs',ns)):rs'.length≤(growF leaf (f+1) depth lo hi st rs n).1.length∧1+ns.length≤(growF leaf (f+1) depth lo hi st rs n).2.length:=by
 cases st with
 | true=>rw [grow_starred leaf f depth lo hi n rs h hl];simp;omega
 | false =>
   rw [grow_plain leaf f depth lo hi n rs h hl rfl rfl rfl rfl];obtain ⟨x,hx⟩:=grow_pre leaf f (depth+1) rs'.length (rs'.length+(togF ((cutR rs' lo hi).map (starR depth))).length) true (rs'++togF ((cutR rs' lo hi).map (starR depth))) (n+1+ns.length);simp only [hx];simp;omega
end Go.Star
namespace Go.Proofs.YtpkocnpamcchcaaGreatDoor
open Go.RowKit Go.Zone Go.Shelf
attribute [local go_sem] zone stepZ fill lookFs goes goesUpon dropFs cell_gro frozen_gro size_gro lt_add drew_gro tape_gro keep_refl
attribute [local go_sem] lt_add2 lt_add3 lt_add4 lt_add5 lt_add6 lt_add7 lt_add8 lt_add9 lt_add10 lt_add11 lt_add12
def trC(k m leaf:Nat)(vr vn:Value):List Value:=[.int .i64 (k:Int),.int .i64 (m:Int),.int .i64 (leaf:Int),vr,vn]
structure StarAt(W:World)(gt base k m leaf:Nat)(vr vn:Value)(P:List (Rc × Star.SR))(N:List (Nc × Star.SN)):Prop where
 row:Row W gt 153 (trC k m leaf vr vn)
 gtb:base≤gt
 recs:OwnRc W base vr (P.map fun p=>p.1)
 ra:RecsAt W base P
 nodes:OwnNc W base vn (N.map fun p=>p.1)
 na:NodesAt W base N
 ml:∀ p∈P,p.2.sums.length=m
section
variable {W W':World} {gt base k m leaf:Nat} {vr vn:Value} {P Q:List (Rc × Star.SR)} {N:List (Nc × Star.SN)}
theorem StarAt.keep(h:StarAt W gt base k m leaf vr vn P N)(hk:Keep W W'):StarAt W' gt base k m leaf vr vn P N :=
 ⟨h.row.keep hk,h.gtb,h.recs.keep hk,h.ra.keep hk,h.nodes.keep hk,fun p hp=>⟨(h.na p hp).d,(h.na p hp).lo,(h.na p hp).hi,(h.na p hp).own.keep hk⟩,h.ml⟩
theorem gw_grown{α:Type}{kk:Nat}{e:TypeId}{enc:α→List Value}{v:Value}{xs:List α}(ho:Own W base e kk enc v xs)(he:e=158∨e=117)(hg:W.grownBy W' v.ownBlock):Gw base gt W W' :=
 Gw.of_turn (Turn.of_grown hg) fun i hi=>by
  have:=own_RN ho he (by simpa using hi);exact ⟨this.1,.inr (.inl this.2)⟩
theorem gw_set(hb:base≤gt)(o:Nat)(v:Value):Gw base gt W (W.setCell ⟨gt,o,none⟩ v) :=
 Gw.of_turn (Turn.set W ⟨gt,o,none⟩ v) fun i hi=>by
  simp only [List.mem_singleton] at hi;exact ⟨by omega,.inl hi⟩
theorem StarAt.app_node(h:StarAt W gt base k m leaf vr vn P N){vn':Value}{nc:Nc}{x:Star.SN}(ho:OwnNc W' base vn' ((N.map fun p=>p.1)++[nc]))(hg:W.grownBy W' vn.ownBlock)(hx:NodeAt W base nc x) :
 StarAt (W'.setCell ⟨gt,4,none⟩ vn') gt base k m leaf vr vn' P (N++[(nc,x)])∧Gw base gt W (W'.setCell ⟨gt,4,none⟩ vn'):=by
 have hne:=own_row_ne h.nodes h.row (by decide);have ht:=Turn.of_grown hg;have hmem:∀ i,i∈vn.ownBlock.toList→vn.ownBlock=some i:=fun i hi=>by simpa using hi
 have hrow:Row W' gt 153 (trC k m leaf vr vn):=ht.row h.row fun hm=>hne (hmem _ hm);have hs:Turn W' (W'.setCell ⟨gt,4,none⟩ vn') [gt]:=Turn.set W' ⟨gt,4,none⟩ vn';have hgt:∀ {α:Type} {e:TypeId} {kk b:Nat} {enc:α→List Value} {v:Value} {xs:List α},Own W' b e kk enc v xs→153≠e→Own (W'.setCell ⟨gt,4,none⟩ vn') b e kk enc v xs:=fun ho he=>ho.turn hs fun i hi=>by
  simp only [List.mem_singleton] at hi;subst hi;exact own_row_ne ho hrow he
 have hkd:∀ {r:Nc} {y:Star.SN},NodeAt W base r y→NodeAt (W'.setCell ⟨gt,4,none⟩ vn') base r y:=fun hy=>⟨hy.d,hy.lo,hy.hi,hgt (hy.own.turn ht fun i hi=>own_own_ne h.nodes hy.own (by decide) i (hmem i hi)) (by decide)⟩;refine ⟨⟨hrow.set 4 vn',h.gtb,hgt (h.recs.turn ht fun i hi=>own_own_ne h.nodes h.recs (by decide) i (hmem i hi)) (by decide),fun p hp=>?_,?_,fun p hp=>?_,h.ml⟩,(gw_grown h.nodes (.inr rfl) hg).trans (gw_set h.gtb 4 vn')⟩
 ·have hp':=h.ra p hp;exact ⟨hp'.ids,hp'.n,hgt (hp'.own.turn ht fun i hi=>own_own_ne h.nodes hp'.own (by decide) i (hmem i hi)) (by decide),hp'.nil_⟩
 ·rw [List.map_append];exact hgt ho (by decide)
 ·rcases List.mem_append.1 hp with hp|hp
  ·exact hkd (h.na p hp)
  ·rw [List.mem_singleton] at hp;subst hp;exact hkd hx
theorem StarAt.app_recs(h:StarAt W gt base k m leaf vr vn P N){vr':Value}(ho:OwnRc W' base vr' ((P.map fun p=>p.1)++(Q.map fun p=>p.1)))(hg:W.grownBy W' vr.ownBlock)(hQ:RecsAt W base Q)(hm:∀ p∈Q,p.2.sums.length=m) :
 StarAt (W'.setCell ⟨gt,3,none⟩ vr') gt base k m leaf vr' vn (P++Q) N∧Gw base gt W (W'.setCell ⟨gt,3,none⟩ vr'):=by
 have hne:=own_row_ne h.recs h.row (by decide);have ht:=Turn.of_grown hg;have hmem:∀ i,i∈vr.ownBlock.toList→vr.ownBlock=some i:=fun i hi=>by simpa using hi
 have hrow:Row W' gt 153 (trC k m leaf vr vn):=ht.row h.row fun hm=>hne (hmem _ hm);have hs:Turn W' (W'.setCell ⟨gt,3,none⟩ vr') [gt]:=Turn.set W' ⟨gt,3,none⟩ vr';have hgt:∀ {α:Type} {e:TypeId} {kk b:Nat} {enc:α→List Value} {v:Value} {xs:List α},Own W' b e kk enc v xs→153≠e→Own (W'.setCell ⟨gt,3,none⟩ vr') b e kk enc v xs:=fun ho he=>ho.turn hs fun i hi=>by
  simp only [List.mem_singleton] at hi;subst hi;exact own_row_ne ho hrow he
 have hrc:∀ {r:Rc} {y:Star.SR},RecAt W base r y→RecAt (W'.setCell ⟨gt,3,none⟩ vr') base r y:=fun hy=>⟨hy.ids,hy.n,hgt (hy.own.turn ht fun i hi=>own_own_ne h.recs hy.own (by decide) i (hmem i hi)) (by decide),hy.nil_⟩;refine ⟨⟨hrow.set 3 vr',h.gtb,?_,fun p hp=>?_,hgt (h.nodes.turn ht fun i hi=>own_own_ne h.recs h.nodes (by decide) i (hmem i hi)) (by decide),fun p hp=>?_,fun p hp=>?_⟩,(gw_grown h.recs (.inl rfl) hg).trans (gw_set h.gtb 3 vr')⟩
 ·rw [List.map_append];exact hgt ho (by decide)
 ·rcases List.mem_append.1 hp with hp|hp
  ·exact hrc (h.ra p hp)
  ·exact hrc (hQ p hp)
 ·have hy:=h.na p hp;exact ⟨hy.d,hy.lo,hy.hi,hgt (hy.own.turn ht fun i hi=>own_own_ne h.recs hy.own (by decide) i (hmem i hi)) (by decide)⟩
 ·rcases List.mem_append.1 hp with hp|hp
  ·exact h.ml p hp
  ·exact hm p hp
theorem StarAt.set_kids{gn c nn:Nat}(h:StarAt W gt base k m leaf vr (.slice (some ⟨gn,0,none⟩) nn c) P N)(hn:N.length=nn)(i:Nat)(hi:i<N.length){A:Option Addr}{l cc:Nat}{ks:List (Int × Nat)}(hk:OwnKd W base (.slice A l cc) ks) :
 StarAt (W.setCell ⟨gn,i*4+3,none⟩ (.slice A l cc)) gt base k m leaf vr (.slice (some ⟨gn,0,none⟩) nn c) P (N.set i ({ N[i].1 with A:=A,l:=l,c:=cc },{ N[i].2 with kids:=ks }))∧Gw base gt W (W.setCell ⟨gn,i*4+3,none⟩ (.slice A l cc)):=by
 have hs:Turn W (W.setCell ⟨gn,i*4+3,none⟩ (.slice A l cc)) [gn]:=Turn.set W ⟨gn,i*4+3,none⟩ (.slice A l cc);have hb:base≤gn:=(h.nodes.lt gn rfl).1;have hgn:∀ {α:Type} {e:TypeId} {kk b:Nat} {enc:α→List Value} {v:Value} {xs:List α},Own W b e kk enc v xs→117≠e→Own (W.setCell ⟨gn,i*4+3,none⟩ (.slice A l cc)) b e kk enc v xs:=fun ho he=>ho.turn hs fun j hj=>by
  simp only [List.mem_singleton] at hj;subst hj;exact own_own_ne h.nodes ho he j rfl
 have hrow:gt∉[gn]:=fun hm=>by
  simp only [List.mem_singleton] at hm;subst hm;exact own_row_ne h.nodes h.row (by decide) rfl
 have hl:(N.map fun p=>p.1).length=nn:=by rw [List.length_map];exact hn
 refine ⟨⟨hs.row h.row hrow,h.gtb,hgn h.recs (by decide),fun p hp=>?_,?_,fun p hp=>?_,h.ml⟩,Gw.of_turn hs fun j hj=>?_⟩
 ·have hp':=h.ra p hp;exact ⟨hp'.ids,hp'.n,hgn hp'.own (by decide),hp'.nil_⟩
 ·rw [List.map_set];exact own_setj h.nodes nc_len hl i 3 (by rw [hl];omega) (by decide) _ _ (by rw [List.getElem_map];rfl)
 ·rcases List.mem_or_eq_of_mem_set hp with hp|rfl
  ·have hy:=h.na p hp;exact ⟨hy.d,hy.lo,hy.hi,hgn hy.own (by decide)⟩
  ·have hy:=h.na N[i] (List.getElem_mem hi);exact ⟨hy.d,hy.lo,hy.hi,hgn hk (by decide)⟩
 ·simp only [List.mem_singleton] at hj;subst hj;exact ⟨hb,.inr (.inl (own_RN h.nodes (.inr rfl) rfl).2)⟩
end
def kblk(r:Nc):Option Nat:=(Value.slice r.A r.l r.c).ownBlock
section
variable {W W' w:World} {gt base k m leaf:Nat} {vr vn:Value} {P:List (Rc × Star.SR)} {N:List (Nc × Star.SN)}
theorem StarAt.grown_kd(h:StarAt W gt base k m leaf vr vn P N){b:Nat}{v:Value}{ks:List (Int × Nat)}(ho:OwnKd W b v ks)(hg:W.grownBy W' v.ownBlock)(hne:∀ p∈N,∀ i,kblk p.1=some i→v.ownBlock≠some i):StarAt W' gt base k m leaf vr vn P N:=by
 have ht:=Turn.of_grown hg;have hmem:∀ i,i∈v.ownBlock.toList→v.ownBlock=some i:=fun i hi=>by simpa using hi
 refine ⟨ht.row h.row fun hm=>own_row_ne ho h.row (by decide) (hmem _ hm),h.gtb,h.recs.turn ht fun i hi=>own_own_ne ho h.recs (by decide) i (hmem i hi),fun p hp=>(h.ra p hp).turn ht fun i hi=>own_own_ne ho (h.ra p hp).own (by decide) i (hmem i hi),h.nodes.turn ht fun i hi=>own_own_ne ho h.nodes (by decide) i (hmem i hi),fun p hp=>?_,h.ml⟩;have hy:=h.na p hp;exact ⟨hy.d,hy.lo,hy.hi,hy.own.turn ht fun i hi e=>hne p hp i e (hmem i hi)⟩
theorem Gw.trans_up{S:List Nat}(h:Gw base gt w W)(k:Turn W W' S)(hs:∀ i∈S,w.heap.size≤i):Gw base gt w W' :=
 ⟨k.os.trans h.os,k.tape.trans h.tape,k.output.trans h.output,Nat.le_trans h.size k.size,fun i hi hc=>(k.block i (Nat.lt_of_lt_of_le hi h.size) fun hm=>by have:=hs i hm;omega).trans (h.block i hi hc)⟩
end
theorem StarAt.finish{W:World}{gt base k m leaf gn c nn n w0:Nat}{vr:Value}{P:List (Rc × Star.SR)}{N NX:List (Nc × Star.SN)}(h:StarAt W gt base k m leaf vr (.slice (some ⟨gn,0,none⟩) nn c) P (N++NX))(hn:(N++NX).length=nn)(hNn:N.length=n){x:Star.SN}{ns:List Star.SN}(hx:(NX.map fun p=>p.2)=x :: ns){A:Option Addr}{l cc:Nat}{ks:List (Int × Nat)}(hk:OwnKd W w0 (.slice A l cc) ks)(hw:base≤w0)(hb:∀ p∈NX,∀ b,kblk p.1=some b→w0≤b) :
 ∃ NXf,StarAt (W.setCell ⟨gn,n*4+3,none⟩ (.slice A l cc)) gt base k m leaf vr (.slice (some ⟨gn,0,none⟩) nn c) P (N++NXf)∧(NXf.map fun p=>p.2)={ x with kids:=ks } :: ns∧(∀ p∈NXf,∀ b,kblk p.1=some b→w0≤b)∧Gw base gt W (W.setCell ⟨gn,n*4+3,none⟩ (.slice A l cc)):=by
 cases NX with
 | nil=>cases hx
 | cons p0 NX =>
   simp only [List.map_cons,List.cons.injEq] at hx;obtain ⟨h1,h2⟩:=hx;have hi:n<(N++p0 :: NX).length:=by simp;omega
   obtain ⟨hS,hG⟩:=h.set_kids hn n hi (hk.base_mono hw);have e:(N++p0 :: NX)[n]=p0:=by
    rw [List.getElem_append_right (by omega)];simp [hNn]
   refine ⟨({ p0.1 with A:=A,l:=l,c:=cc },{ p0.2 with kids:=ks }) :: NX,?_,?_,?_,hG⟩
   ·rw [e] at hS;rw [List.set_append_right _ _ (by omega),hNn,Nat.sub_self] at hS;exact hS
   ·simp only [List.map_cons];rw [h1,h2]
   ·intro p hp b hb'
    rcases List.mem_cons.1 hp with rfl|hp
    ·exact (hk.lt b hb').1
    ·exact hb p (List.mem_cons_of_mem _ hp) b hb'
def Rc.setId(r:Rc):Nat→Rc
 | 0=>{ r with i0:= -1 }
 | 1=>{ r with i1:= -1 }
 | 2=>{ r with i2:= -1 }
 | 3=>{ r with i3:= -1 }
 | 4=>{ r with i4:= -1 }
 | 5=>{ r with i5:= -1 }
 | 6=>{ r with i6:= -1 }
 | _=>{ r with i7:= -1 }
theorem setId_cells(r:Rc):∀ d,d<8→(r.setId d).cells=r.cells.set d (.int .i64 (-1))
 | 0,_=>rfl
 | 1,_=>rfl
 | 2,_=>rfl
 | 3,_=>rfl
 | 4,_=>rfl
 | 5,_=>rfl
 | 6,_=>rfl
 | 7,_=>rfl
 | d+8,h=>absurd h (by omega)
theorem setId_ids(r:Rc):∀ d,d<8→(r.setId d).ids=r.ids.set d (-1)
 | 0,_=>rfl
 | 1,_=>rfl
 | 2,_=>rfl
 | 3,_=>rfl
 | 4,_=>rfl
 | 5,_=>rfl
 | 6,_=>rfl
 | 7,_=>rfl
 | d+8,h=>absurd h (by omega)
theorem setId_sv(r:Rc):∀ d,d<8→(r.setId d).sv=r.sv∧(r.setId d).n=r.n∧(r.setId d).A=r.A
 | 0,_=>⟨rfl,rfl,rfl⟩
 | 1,_=>⟨rfl,rfl,rfl⟩
 | 2,_=>⟨rfl,rfl,rfl⟩
 | 3,_=>⟨rfl,rfl,rfl⟩
 | 4,_=>⟨rfl,rfl,rfl⟩
 | 5,_=>⟨rfl,rfl,rfl⟩
 | 6,_=>⟨rfl,rfl,rfl⟩
 | 7,_=>⟨rfl,rfl,rfl⟩
 | d+8,h=>absurd h (by omega)
def mixL{α β:Type}(f g:α→β)(xs:List α)(i:Nat):List β:=(xs.take i).map f++(xs.drop i).map g
theorem mix_len{α β:Type}(f g:α→β)(xs:List α)(i:Nat):(mixL f g xs i).length=xs.length:=by
 simp [mixL];omega
theorem mix_get{α β:Type}(f g:α→β)(xs:List α)(i:Nat)(hi:i<xs.length):(mixL f g xs i)[i]'(by rw [mix_len];exact hi)=g xs[i]:=by
 unfold mixL;rw [List.getElem_append_right (by simp;omega)];simp only [List.getElem_map,List.getElem_drop,List.length_map,List.length_take]
 congr 2
 omega
theorem mix_succ{α β:Type}(f g:α→β)(xs:List α)(i:Nat)(hi:i<xs.length):(mixL f g xs i).set i (f xs[i])=mixL f g xs (i+1):=by
 unfold mixL;rw [List.set_append_right _ _ (by simp;omega),List.take_succ_eq_append_getElem hi,List.drop_eq_getElem_cons hi];simp only [List.length_map,List.length_take,List.map_cons,List.map_append,List.map_nil];rw [show i-min i xs.length=0 by omega,List.set_cons_zero,List.append_assoc];rfl
theorem mix_all{α β:Type}(f g:α→β)(xs:List α):mixL f g xs xs.length=xs.map f:=by
 unfold mixL;rw [List.take_length,List.drop_length];simp
theorem mix_zero{α β:Type}(f g:α→β)(xs:List α):mixL f g xs 0=xs.map g:=by simp [mixL]
theorem sl_sub{α:Type}{w:World}{k c b lo hi:Nat}{enc:α→List Value}{xs:List α}(h:Sl w k enc (some ⟨b,0,none⟩) c xs)(h1:lo≤hi)(h2:hi≤xs.length):Sl w k enc (some ⟨b,lo*k,none⟩) (c-lo) ((xs.drop lo).take (hi-lo)):=by
 have hc:=h.cap;have hb:=h.big;have hl:=h.len;have e:((xs.drop lo).take (hi-lo)).length=hi-lo:=by simp;omega
 refine ⟨by rw [e];omega,by omega,by rw [e];omega,fun i hi'=>⟨b,lo*k,rfl,fun j u hu=>?_⟩⟩;rw [e] at hi';obtain ⟨b',off,hA,hcell⟩:=h.at_ (lo+i) (by omega);simp only [Option.some.injEq,Addr.mk.injEq,and_true] at hA;obtain ⟨rfl,rfl⟩:=hA;rw [List.getElem_take,List.getElem_drop] at hu;have:=hcell j u hu;rw [Nat.add_mul] at this
 simpa [Nat.add_assoc] using this
theorem RecAt.star{W:World}{base:Nat}{r:Rc}{x:Star.SR}(h:RecAt W base r x)(d:Nat)(hd:d<8):RecAt W base (r.setId d) (Star.starR d x):=by
 obtain ⟨e1,e2,e3⟩:=setId_sv r d hd;exact ⟨by rw [setId_ids r d hd,h.ids];rfl,by rw [e2];exact h.n,by rw [e1];exact h.own,fun e=>by rw [e3];exact h.nil_ e⟩
theorem idAt_eq(P:List (Rc × Star.SR))(i d:Nat)(hi:i<P.length):Star.idAt (P.map fun p=>p.2) i d=P[i].2.ids.getD d 0:=by
 have h:(P.map fun p=>p.2).getD i default=P[i].2:=by
  rw [List.getD_eq_getElem?_getD,List.getElem?_map,List.getElem?_eq_getElem hi];rfl
 unfold Star.idAt;rw [h]
theorem ids_cell(r:Rc):∀ d,d<8→r.cells[d]? =some (.int .i64 (r.ids.getD d 0))
 | 0,_=>rfl
 | 1,_=>rfl
 | 2,_=>rfl
 | 3,_=>rfl
 | 4,_=>rfl
 | 5,_=>rfl
 | 6,_=>rfl
 | 7,_=>rfl
 | d+8,h=>absurd h (by omega)
theorem rec_id{W:World}{base g N c:Nat}{P:List (Rc × Star.SR)}(h:OwnRc W base (.slice (some ⟨g,0,none⟩) N c) (P.map fun p=>p.1))(hr:RecsAt W base P)(hl:P.length=N)(i d:Nat)(hi:i<P.length)(hd:d<8):W.cell? ⟨g,i*10+d,none⟩=some (.int .i64 (Star.idAt (P.map fun p=>p.2) i d)):=by
 have h1:=rec_cell h (by rw [List.length_map];exact hl) i (by rw [List.length_map];exact hi) d (.int .i64 (Star.idAt (P.map fun p=>p.2) i d));rw [List.getElem_map] at h1;exact h1 (by rw [ids_cell _ d hd,idAt_eq P i d hi,(hr _ (List.getElem_mem hi)).ids])
end Go.Proofs.YtpkocnpamcchcaaGreatDoor
