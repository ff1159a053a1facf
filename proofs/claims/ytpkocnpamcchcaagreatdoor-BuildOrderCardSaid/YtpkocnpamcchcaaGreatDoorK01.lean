/- Parts of the proof. -/
import Derived.StillTail
import Derived.Below
import Derived.Deep.Draws
import Derived.WalkKit
import Derived.WalkSpells
import Derived.WalkLawsBesides
import Derived.Test.YtpkocnpamcchcaaGreatDoorProg
import Derived.Test.YtpkocnpamcchcaaGreatDoorK00
set_option maxRecDepth 100000
set_option maxHeartbeats 4000000
set_option linter.unusedSimpArgs false
set_option linter.unusedVariables false
set_option linter.unnecessarySimpa false
namespace Go.Zone
open Go.RowKit
theorem hold{p:Prop}(h:Hid p):p:=h
theorem unhold{p:Prop}(h:p):Hid p:=h
def Keep(W W':World):Prop:=Below W.heap.size W W'
theorem keep_refl(W:World):Keep W W↔True:=⟨fun _=>trivial,fun _=>Below.refl _ _⟩
theorem Keep.refl(W:World):Keep W W:=Below.refl _ _
theorem Keep.trans{a b c:World}(h:Keep a b)(k:Keep b c):Keep a c:=Below.trans h (Below.mono k h.size)
abbrev Pred:=Value→World→Prop
def Mono(Ψ:Pred):Prop:=∀ v W W',Keep W W'→Ψ v W→Ψ v W'
def goesUpon(P:Program)(W:World)(Ψ:Pred):Result Next→Prop
 | .ok (.value u) W'=>Ψ u W'∧Keep W W'
 | .ok .skip W'=>Ψ undef W'∧Keep W W'
 | .ok (.enter f args) W'=>Calls P f args W' fun e w''=>∃ u,e=.returned u∧Ψ u w''∧Keep W w''
 | _=>False
def goes(P:Program)(o:Oper)(b:Act)(W:World)(Ψ:Pred):Prop:=goesUpon P W Ψ ((execOp b.eval o).run P W)
abbrev Slots:=Tmp→Pred
def upd(A:Slots)(d:Option Tmp)(Ψ:Pred):Slots:=fun t=>if d=some t then Ψ else A t
section
variable {P:Program} {ops:Array Oper} {md:Region.Mode} {B:Nat} {w0:World} {m:Nat} {df:List Deferred}
def sees(A:Slots)(m:Nat)(b:Act)(W:World):Prop:=∀ t:Nat,t<m→A t (b.tmps.getD t undef) W
def stepA(P:Program)(ops:Array Oper)(w0:World)(m:Nat)(df:List Deferred)(A:Slots)(o:Oper)(Ψ:Pred):Prop :=
 Mono Ψ∧∀ (b:Act) (W:World),b.defers=df→b.tmps.size=m→Below w0.heap.size w0 W→(∀ t∈o.looksAt ops,t<m→A t (b.tmps.getD t undef) W) →
  if Region.wanted o (yielded ops b.tmps) then goes P o b W Ψ else Ψ undef W
theorem stepA_congr{A A':Slots}{o:Oper}{Ψ:Pred}(h:stepA P ops w0 m df A o Ψ)(hA:∀ t∈o.looksAt ops,A' t=A t):stepA P ops w0 m df A' o Ψ :=
 ⟨h.1,fun b W hd hm hW hs=>h.2 b W hd hm hW fun t ht htm=>by rw [← hA t ht];exact hs t ht htm⟩
theorem upd_comm(A:Slots){x y:Option Tmp}(Ψ Φ:Pred)(h:∀ d,x=some d→y≠some d):upd (upd A x Ψ) y Φ=upd (upd A y Φ) x Ψ:=by
 funext t
 unfold upd
 by_cases hx:x=some t<;>by_cases hy:y=some t<;>simp [hx,hy]
 exact absurd hy (h t hx)
theorem upd_other(A:Slots){x:Option Tmp}(Ψ:Pred){l:List Tmp}(h:∀ d,x=some d→d∉l):∀ t∈l,upd A x Ψ t=A t:=fun t ht=>by
 unfold upd;rw [if_neg (fun e=>h t e ht)]
def wpA(P:Program)(ops:Array Oper)(w0:World)(m:Nat)(df:List Deferred)(Q:Slots→Prop):List Oper→Slots→Prop
 | [],A=>Q A
 | o :: rest,A=>∃ Ψ,stepA P ops w0 m df A o Ψ∧wpA P ops w0 m df Q rest (upd A o.dst Ψ)
def wpAnyA(P:Program)(md:Region.Mode)(ops:Array Oper)(w0:World)(m:Nat)(df:List Deferred)(n:Nat)(L:Array Bool→Slots→Prop):Nat→Array Bool→Slots→Prop
 | 0,listed,A=>L listed A
 | f+1,listed,A =>
   Region.ready md ops listed≠[]∧∀ i∈Region.ready md ops listed,i<n∧∃ o Ψ,ops[i]? =some o∧stepA P ops w0 m df A o Ψ∧wpAnyA P md ops w0 m df n L f (listed.setIfInBounds i true) (upd A o.dst Ψ)
theorem wpAnyA_first{n i:Nat}{oi:Oper}{Ψi:Pred}{L:Array Bool→Slots→Prop}(hi:ops[i]? =some oi)
 (hhead:∀ listed,HeadInv md ops n listed→(∃ i,i<n∧listed.getD i true=false)→∀ j∈Region.ready md ops listed,j<n) (hin:i<n)
 (hdone:∀ listed A,L listed A→∀ j∈Region.ready md ops listed,n≤j) :
 ∀ (f:Nat) (listed:Array Bool) (A:Slots),HeadInv md ops n listed →
   (∀ j oj,ops[j]? =some oj→j≠i→listed.getD j true=false→(∀ e∈oj.after,Region.binds md e=true→e.on≠i)→oi.apart ops oj=true) →
   i∈Region.ready md ops listed→stepA P ops w0 m df A oi Ψi →
   wpAnyA P md ops w0 m df n L f (listed.setIfInBounds i true) (upd A oi.dst Ψi)→wpAnyA P md ops w0 m df n L (f+1) listed A:=by
 intro f
 induction f with
 | zero =>
   intro listed A inv _ hr hy H;have hun:=(mem_ready.1 hr).1;refine ⟨fun h=>(by rw [h] at hr;cases hr),fun j hj=>?_⟩;have hjn:j<n:=hhead listed inv ⟨i,hin,hun⟩ j hj;refine ⟨hjn,?_⟩
   by_cases hji:j=i
   ·subst hji;exact ⟨oi,Ψi,hi,hy,H⟩
   ·have:=hdone _ _ H j (ready_mono hj hji);omega
 | succ f ih =>
   intro listed A inv hfree hr hy H;have hun:=(mem_ready.1 hr).1;refine ⟨fun h=>(by rw [h] at hr;cases hr),fun j hj=>?_⟩;have hjn:j<n:=hhead listed inv ⟨i,hin,hun⟩ j hj;refine ⟨hjn,?_⟩
   by_cases hji:j=i
   ·subst hji;exact ⟨oi,Ψi,hi,hy,H⟩
   ·obtain ⟨_,oj,Ψj,hoj,hsj,hrest⟩:=H.2 j (ready_mono hj hji);obtain ⟨hjun,oj',hoj',hall⟩:=mem_ready.1 hj;have:oj'=oj:=Option.some.inj (hoj'.symm.trans hoj);subst this;have hnot:∀ e∈oj'.after,Region.binds md e=true→e.on≠i:=fun e he hb heq=>by
     have h1:=hall e he hb;rw [heq,getD_both hun] at h1
     cases h1
    obtain ⟨h1,h2,h3⟩:=Oper.apart_spec (hfree j oj' hoj hji hjun hnot);have hfree':∀ k ok,ops[k]? =some ok→k≠i→(listed.setIfInBounds j true).getD k true=false →
     (∀ e∈ok.after,Region.binds md e=true→e.on≠i)→oi.apart ops ok=true:=fun k ok hk hki hun hno=>by
     refine hfree k ok hk hki ?_ hno
     by_cases hjk:j=k
     ·subst hjk;exact hjun
     ·rw [getD_set_ne true hjk] at hun;exact hun
    refine ⟨oj',Ψj,hoj,stepA_congr hsj (fun t ht=>(upd_other A Ψi h1 t ht).symm),?_⟩;refine ih (listed.setIfInBounds j true) _ (inv.set hj hjn) hfree' (ready_mono hr (Ne.symm hji)) (stepA_congr hy (upd_other A Ψj h3)) ?_;rw [Array.setIfInBounds_comm _ _ hji,← upd_comm A Ψi Ψj h2];exact hrest
theorem wpAnyA_lex{n g:Nat}{Lq:Slots→Prop}(hhead:∀ listed,HeadInv md ops n listed→(∃ i,i<n∧listed.getD i true=false)→∀ j∈Region.ready md ops listed,j<n) :
 ∀ (l:List Oper) (k:Nat) (listed:Array Bool) (A:Slots),(∀ j,j<l.length→l[j]? =ops[k+j]?)→k+l.length=n→HeadInv md ops n listed →
 Region.lexHead md ops g l.length k listed=true→wpA P ops w0 m df Lq l A →
 wpAnyA P md ops w0 m df n (fun listed' A'=>Region.seqB md ops g n listed'=true∧Lq A') l.length listed A
 | [],k,listed,A,_,hk,_,hB,h=>by
   have:k=n:=by simpa using hk
   subst this;exact ⟨by simpa [Region.lexHead] using hB,h⟩
 | o :: l,k,listed,A,hl,hk,inv,hB,h=>by
   have h0:ops[k]? =some o:=by simpa using (hl 0 (by simp)).symm
   simp only [List.length_cons,Region.lexHead,Bool.and_eq_true] at hB;obtain ⟨⟨hr,hf⟩,hB'⟩:=hB;have hkn:k<n:=by simp only [List.length_cons] at hk;omega
   have hr':k∈Region.ready md ops listed:=by simpa using hr
   obtain ⟨Ψ,hy,hK⟩:=h;exact wpAnyA_first h0 hhead hkn (fun listed' A' hL=>seqB_ready hL.1) l.length listed A inv (Region.free_spec h0 hf) hr' hy
     (wpAnyA_lex hhead l (k+1) _ _ (fun j hj=>by have:=hl (j+1) (by simp;omega);simpa [Nat.add_assoc,Nat.add_comm 1 j] using this) (by simp only [List.length_cons] at hk;omega) (inv.set hr' hkn) hB' hK)
def MonoA(A:Slots):Prop:=∀ t,Mono (A t)
theorem getD_put(b:Act)(d:Option Tmp)(u:Value)(t:Nat)(ht:t<b.tmps.size):(b.put d u).tmps.getD t undef=if d=some t then u else b.tmps.getD t undef:=by
 cases d with
 | none=>simp [Act.put]
 | some d =>
   by_cases h:d=t
   ·subst h;simp [Act.put,ht]
   ·have h':¬ (some d=some t):=fun e=>h (Option.some.inj e);simp [Act.put,h',Array.getElem?_setIfInBounds_ne h]
theorem put_size(b:Act)(d:Option Tmp)(u:Value):(b.put d u).tmps.size=b.tmps.size:=by cases d<;>simp [Act.put]
theorem put_defers'(b:Act)(d:Option Tmp)(u:Value):(b.put d u).defers=b.defers:=by cases d<;>simp [Act.put]
theorem sees_put{A:Slots}{b:Act}{W W':World}{d:Option Tmp}{u:Value}{Ψ:Pred}(hA:MonoA A)(hs:sees A m b W)(hm:b.tmps.size=m)(hb:Below W.heap.size W W')(hu:Ψ u W') :
 sees (upd A d Ψ) m (b.put d u) W':=fun t ht=>by
 rw [getD_put b d u t (by omega)];unfold upd
 split
 ·exact hu
 ·exact hA t _ _ _ hb (hs t ht)
theorem below_chain{W W':World}(h:Below w0.heap.size w0 W)(k:Below W.heap.size W W'):Below w0.heap.size w0 W':=h.trans (k.mono h.size)
theorem wpAny_of_A{n g:Nat}{L:Array Bool→Slots→Prop}{Q':Exit→Act→World→Prop}
 (hL:∀ listed A b W,L listed A→b.defers=df→b.tmps.size=m→Below w0.heap.size w0 W→sees A m b W→wpAny P md ops Q' g listed b W) :
 ∀ (f:Nat) (listed:Array Bool) (A:Slots),MonoA A→wpAnyA P md ops w0 m df n L f listed A→∀ b W,b.defers=df→b.tmps.size=m→Below w0.heap.size w0 W→sees A m b W→wpAny P md ops Q' (f+g) listed b W
 | 0,listed,A,_,h,b,W,hd,hm,hW,hs=>by rw [Nat.zero_add];exact hL _ _ _ _ h hd hm hW hs
 | f+1,listed,A,hA,h,b,W,hd,hm,hW,hs=>by
   rw [show f+1+g=(f+g)+1 by omega];refine ⟨fun h0=>absurd h0 h.1,fun i hi=>?_⟩;obtain ⟨_,o,Ψ,ho,⟨hM,hst⟩,hrest⟩:=h.2 i hi;have hst':=hst b W hd hm hW (fun t _ htm=>hs t htm);have hA':MonoA (upd A o.dst Ψ):=fun t=>by
    unfold upd
    split
    ·exact hM
    ·exact hA t
   have go:∀ u W',Ψ u W'→Below W.heap.size W W'→wpAny P md ops Q' (f+g) (listed.setIfInBounds i true) (b.put o.dst u) W':=fun u W' hu hb =>
    wpAny_of_A hL f _ _ hA' hrest _ _ (by rw [put_defers',hd]) (by rw [put_size,hm]) (below_chain hW hb) (sees_put hA hs hm hb hu)
   unfold wpOp;simp only [ho]
   split
   ·rename_i hw;rw [if_pos hw] at hst';refine .inl ?_;unfold goes at hst';unfold Oper.wp;generalize (execOp b.eval o).run P W=r at *
    cases r with
    | ok nx w' =>
      cases nx<;>simp only [goesUpon] at hst'<;>simp only [Oper.upon]
      case value u=>exact go u w' hst'.1 hst'.2
      case skip=>exact go undef w' hst'.1 hst'.2
      case enter f args =>
       refine hst'.mono fun e w'' ⟨u,he,hu,hb⟩=>?_;subst he;exact go u w'' hu hb
    | halt x w'=>simp only [goesUpon] at hst'
   ·rename_i hw;rw [if_neg hw] at hst';exact go undef W hst' (Below.refl _ _)
def zoneB(ops:Array Oper)(n:Nat):Bool :=
 (decide (n=ops.size)||(decide (n<ops.size)&&Region.sinkB .any ops n&&Region.chainB .any ops n))&&Region.lexHead .any ops (ops.size-n) n 0 (Array.replicate ops.size false)
theorem head_of{n:Nat}(h:(decide (n=ops.size)||(decide (n<ops.size)&&Region.sinkB md ops n&&Region.chainB md ops n))=true)(listed:Array Bool)(inv:HeadInv md ops n listed)
 (hx:∃ i,i<n∧listed.getD i true=false):∀ j∈Region.ready md ops listed,j<n:=fun j hj=>by
 simp only [Bool.or_eq_true,Bool.and_eq_true,decide_eq_true_eq] at h
 rcases h with h | ⟨⟨h1,h2⟩,h3⟩
 ·obtain ⟨_,o,ho,_⟩:=mem_ready.1 hj;have:=(Array.getElem?_eq_some_iff.1 ho).1;omega
 ·obtain ⟨i,hi,hun⟩:=hx
  rcases Nat.lt_or_ge j n with h|h
  ·exact h
  ·exact absurd hj (tail_waits h2 h3 h1 inv _ i rfl hi hun j h)
theorem wp_region_A{id:Nat}{Q:Exit→Act→World→Prop}{a:Act}{w w1:World}(hk1:Keep w w1){l:List Oper}(n:Nat)(hm:P.follows .mixedOrders=true)(hB:zoneB l.toArray n=true)(hnl:n≤l.length)
 {A:Slots} (hA:MonoA A) (h0:∀ d,sees A a.tmps.size a { w1 with drawn:=d })
 (h:wpA P l.toArray w a.tmps.size a.defers (fun A=>∀ b W,b.defers=a.defers→b.tmps.size=a.tmps.size→Below w.heap.size w W→sees A a.tmps.size b W→wpList P l.toArray Q (l.drop n) b W) (l.take n) A):(Code.region id l.toArray true).wp P Q a w1:=by
 simp only [zoneB,Bool.and_eq_true] at hB;obtain ⟨hn,hlex⟩:=hB;have htl:(l.take n).length=n:=by simp;omega
 have hdl:(l.drop n).length=l.toArray.size-n:=by simp
 have inv0:HeadInv .any l.toArray n (Array.replicate l.toArray.size false) :=
  ⟨by simp,fun j oj _ hl=>(by rw [getD_replicate_false] at hl;cases hl),fun t _ ht=>getD_in (by simpa using ht) (getD_replicate_false _ _)⟩
 have H:=wpAnyA_lex (md:=.any) (g:=l.toArray.size-n) (head_of hn) (l.take n) 0 _ A (fun j hj=>by
  have hj':j<n:=by rw [htl] at hj;exact hj
  simp [hj']) (by simpa using htl) inv0 (by rw [htl];exact hlex) h
 refine wp_region_any hm ?_;have hk2:Below w.heap.size w { w1 with drawn:=w1.drawn+1 }:=⟨hk1.os,hk1.tape,hk1.output,hk1.size,hk1.block⟩;have:=wpAny_of_A (Q':=Q) (g:=l.toArray.size-n) (fun listed A' b W hL hd hm hW hs=>by
  have:=wpAny_of_seq (md:=.any) (Q':=Q) (l.drop n) n listed b W (fun j=>by simp [List.getElem?_drop]) (by rw [hdl];exact hL.1) (hL.2 b W hd hm hW hs)
  rwa [hdl] at this) _ _ _ hA H a { w1 with drawn:=w1.drawn+1 } rfl rfl hk2 (h0 _)
 rw [htl,show n+(l.toArray.size-n)=l.toArray.size by simp;omega] at this;exact this
end
theorem lt_add{a b:Nat}(c:Nat)(h:a<b):(a<b+c)=True:=eq_true (Nat.lt_add_right c h)
structure GB where
 d:Nat
 os:Array Obj
 deriving Inhabited
def _root_.Go.World.gro(w:World)(p:GB):World:={ w with heap:=w.heap++p.os,drawn:=p.d }
section
variable (w:World) (p q:GB) (a:Addr) (k:Nat)
theorem below_gro:Below w.heap.size w (w.gro p):=⟨rfl,rfl,rfl,by simp [World.gro],fun k hk=>by simp [World.gro,Array.getElem?_append,hk]⟩
theorem gro_of_below{W:World}(h:Below w.heap.size w W):∃ p:GB,W=w.gro p:=by
 refine ⟨⟨W.drawn,W.heap.extract w.heap.size W.heap.size⟩,?_⟩;obtain ⟨heap,tape,drawn,os,output⟩:=W;have h1:=h.os;have h2:=h.tape;have h3:=h.output;have h4:=h.size;have h5:=h.block;simp only at h1 h2 h3 h4 h5;unfold World.gro;simp only [World.mk.injEq];refine ⟨?_,h2,trivial,h1,h3⟩;apply Array.ext_getElem?;intro i;rw [Array.getElem?_append]
 split
 ·rename_i hi;exact h5 i hi
 ·rename_i hi;simp only [Array.getElem?_extract]
  split
  ·congr 1;omega
  ·rename_i h6;exact Array.getElem?_eq_none (by omega)
theorem size_gro:(w.gro p).heap.size=w.heap.size+p.os.size:=by simp [World.gro]
theorem cell_gro(h:a.block<w.heap.size):(w.gro p).cell? a=w.cell? a:=(below_gro w p).cell h
theorem frozen_gro(h:a.block<w.heap.size):(w.gro p).frozen? a=w.frozen? a:=(below_gro w p).frozen h
theorem gro_of_gro{W:World}(h:Keep (w.gro p) W):∃ q:GB,W=w.gro q:=gro_of_below w (below_chain (below_gro w p) h)
theorem drew_gro:(w.gro p).drew=w.gro ⟨p.d+1,p.os⟩:=rfl
theorem tape_gro:(w.gro p).tape=w.tape:=rfl
end
abbrev Frees:=List (Tmp × Pred)
def slot(a:Act)(fs:Frees):Slots:=fun t v W=>(∀ Φ,(t,Φ)∈fs→Φ v W)∧((∀ Φ,(t,Φ)∉fs)→v=a.tmps.getD t undef)
def fill(W:World):Frees→Act→(Act→Prop)→Prop
 | [],a,G=>G a
 | (t,Φ) :: fs,a,G=>∀ v,Φ v W→fill W fs (a.put (some t) v) G
def lookFs(ops:Array Oper)(o:Oper)(fs:Frees):Frees:=fs.filter fun x=>(o.looksAt ops).contains x.1
def dropFs(d:Option Tmp)(fs:Frees):Frees:=fs.filter fun x=>d != some x.1
def stepZ(P:Program)(ops:Array Oper)(w:World)(o:Oper)(a:Act)(fs:Frees)(Ψ:Pred):Prop :=
 ∀ p:GB,fill (w.gro p) (lookFs ops o fs) a fun b=>if Region.wanted o (yielded ops b.tmps) then goes P o b (w.gro p) Ψ else Ψ undef (w.gro p)
def zone(P:Program)(ops:Array Oper)(w:World)(o:Oper)(a:Act)(fs:Frees)(K:Act→Frees→Prop):Prop :=
 ∃ u,stepZ P ops w o a fs (fun v _=>v=u)∧K (a.put o.dst u) (dropFs o.dst fs)
def wpZ(P:Program)(ops:Array Oper)(w:World)(Q:Act→Frees→Prop):List Oper→Act→Frees→Prop
 | [],a,fs=>Q a fs
 | o :: rest,a,fs=>zone P ops w o a fs (wpZ P ops w Q rest)∨∃ d Ψ,o.dst=some d∧Mono Ψ∧stepZ P ops w o a fs Ψ∧wpZ P ops w Q rest (a.put (some d) undef) ((d,Ψ) :: dropFs (some d) fs)
def putAll:Frees→Act→Act→Act
 | [],a,_=>a
 | (t,_) :: fs,a,b=>putAll fs (a.put (some t) (b.tmps.getD t undef)) b
theorem fill_elim{W:World}{G:Act→Prop}{b:Act}:∀ {fs:Frees} {a:Act},fill W fs a G→(∀ t Φ,(t,Φ)∈fs→Φ (b.tmps.getD t undef) W)→G (putAll fs a b)
 | [],_,h,_=>h
 | (t,Φ) :: fs,a,h,hb=>fill_elim (fs:=fs) (h _ (hb t Φ (by simp))) fun t' Φ' hm=>hb t' Φ' (by simp [hm])
theorem putAll_size(b:Act):∀ (fs:Frees) (a:Act),(putAll fs a b).tmps.size=a.tmps.size
 | [],_=>rfl
 | (t,_) :: fs,a=>by rw [putAll,putAll_size b fs,put_size]
theorem putAll_defers(b:Act):∀ (fs:Frees) (a:Act),(putAll fs a b).defers=a.defers
 | [],_=>rfl
 | (t,_) :: fs,a=>by rw [putAll,putAll_defers b fs,put_defers']
theorem putAll_getD(b:Act)(t:Nat):∀ (fs:Frees) (a:Act),t<a.tmps.size→((∃ Φ,(t,Φ)∈fs)→(putAll fs a b).tmps.getD t undef=b.tmps.getD t undef) ∧
 ((∀ Φ,(t,Φ)∉fs)→(putAll fs a b).tmps.getD t undef=a.tmps.getD t undef)
 | [],a,_=>⟨fun ⟨_,h⟩=>absurd h (by simp),fun _=>rfl⟩
 | (t',Φ') :: fs,a,ht=>by
   have ih:=putAll_getD b t fs (a.put (some t') (b.tmps.getD t' undef)) (by rw [put_size];exact ht);have hp:=getD_put a (some t') (b.tmps.getD t' undef) t ht;refine ⟨fun ⟨Φ,h⟩=>?_,fun h=>?_⟩
   ·by_cases hx:∃ Φ,(t,Φ)∈fs
    ·exact ih.1 hx
    ·have hx':∀ Φ,(t,Φ)∉fs:=fun Φ hm=>hx ⟨Φ,hm⟩;have:t=t':=by
      rcases List.mem_cons.1 h with h|h
      ·exact (Prod.mk.inj h).1
      ·exact absurd h (hx' Φ)
     subst this;rw [putAll,ih.2 hx',hp,if_pos rfl]
   ·have h1:∀ Φ,(t,Φ)∉fs:=fun Φ hm=>h Φ (List.mem_cons_of_mem _ hm);have hne:¬ (some t'=some t):=fun e=>h Φ' (by rw [Option.some.inj e];exact List.mem_cons_self);rw [putAll,ih.2 h1,hp,if_neg hne]
theorem eval_out{b:Act}{t:Nat}(h:b.tmps.size≤t){c:Act}(hc:c.tmps.size=b.tmps.size):b.eval (.tmp t)=c.eval (.tmp t):=by
 simp [Act.eval,Array.getElem?_eq_none h,Array.getElem?_eq_none (hc ▸ h)]
theorem eval_same{b c:Act}{t:Nat}(hc:c.tmps.size=b.tmps.size)(h:t<b.tmps.size→b.tmps.getD t undef=c.tmps.getD t undef):b.eval (.tmp t)=c.eval (.tmp t):=by
 rcases Nat.lt_or_ge t b.tmps.size with ht|ht
 ·have:=h ht;simp [Act.eval,ht,hc] at this ⊢;exact this
 ·exact eval_out ht hc
theorem stepA_of_Z{P:Program}{ops:Array Oper}{w:World}{o:Oper}{a:Act}{fs:Frees}{Ψ:Pred}{A:Slots}(hsel:∀ cs b,o.op≠.select cs b)(hM:Mono Ψ)
 (hA:∀ t:Nat,t<a.tmps.size→∀ v W,A t v W→slot a fs t v W) (hfs:∀ (t:Nat) Φ,(t,Φ)∈fs→t<a.tmps.size) (h:stepZ P ops w o a fs Ψ):stepA P ops w a.tmps.size a.defers A o Ψ:=by
 refine ⟨hM,fun b W hd hm hW hs=>?_⟩;obtain ⟨p,rfl⟩:=gro_of_below w hW;have hb:∀ t Φ,(t,Φ)∈lookFs ops o fs→Φ (b.tmps.getD t undef) (w.gro p):=fun t Φ hx=>by
  simp only [lookFs,List.mem_filter,List.contains_eq_mem,decide_eq_true_eq] at hx;exact (hA t (hfs t Φ hx.1) _ _ (hs t hx.2 (hfs t Φ hx.1))).1 Φ hx.1
 have h1:=fill_elim (h p) hb;generalize hc:putAll (lookFs ops o fs) a b=c at h1;have hsz:c.tmps.size=b.tmps.size:=by rw [← hc,putAll_size,hm]
 have hget:∀ t:Nat,t∈o.looksAt ops→t<b.tmps.size→b.tmps.getD t undef=c.tmps.getD t undef:=fun t ht htm=>by
  have hg:=putAll_getD b t (lookFs ops o fs) a (by omega);rw [hc] at hg
  by_cases hx:∃ Φ,(t,Φ)∈lookFs ops o fs
  ·exact (hg.1 hx).symm
  ·have hx':∀ Φ,(t,Φ)∉lookFs ops o fs:=fun Φ hmm=>hx ⟨Φ,hmm⟩;rw [hg.2 hx'];refine (hA t (hm ▸ htm) _ _ (hs t ht (hm ▸ htm))).2 fun Φ hmm=>hx' Φ ?_;simp only [lookFs,List.mem_filter,List.contains_eq_mem,decide_eq_true_eq];exact ⟨hmm,ht⟩
 have he:execOp b.eval o=execOp c.eval o:=execOp_congr o hsel fun x hx=>by
  cases x with
  | tmp t=>exact eval_same hsz fun htm=>hget t (List.mem_append_left _ (List.mem_filterMap.2 ⟨.tmp t,by simpa using hx,rfl⟩)) htm
  | _=>rfl
 have hy:Region.wanted o (yielded ops b.tmps)=Region.wanted o (yielded ops c.tmps):=by
  unfold Region.wanted
  cases hg:o.guard with
  | none=>rfl
  | some gw =>
    obtain ⟨g,want⟩:=gw;have:yielded ops b.tmps g=yielded ops c.tmps g:=by
     unfold yielded
     cases ht:(ops[g]?).bind (·.dst) with
     | none=>rfl
     | some t =>
       have hin:t∈o.looksAt ops:=by simp [Oper.looksAt,hg,ht]
       rcases Nat.lt_or_ge t b.tmps.size with htm|htm
       ·have:=hget t hin htm;have htc:t<c.tmps.size:=hsz ▸ htm;simp [htm,htc] at this ⊢;rw [this]
       ·simp [Array.getElem?_eq_none htm,Array.getElem?_eq_none (hsz ▸ htm)]
    simp only [this]
 unfold goes at h1 ⊢;rw [he,hy];exact h1
theorem mono_eq(u:Value):Mono fun v _=>v=u:=fun _ _ _ _ h=>h
theorem wpA_of_Z{P:Program}{ops:Array Oper}{w:World}{Qz:Act→Frees→Prop}{Qa:Slots→Prop}(m:Nat)(df:List Deferred)
 (hQ:∀ a fs A,Qz a fs→a.tmps.size=m→a.defers=df→(∀ (t:Nat) Φ,(t,Φ)∈fs→t<a.tmps.size)→(∀ t:Nat,t<a.tmps.size→∀ v W,A t v W→slot a fs t v W)→Qa A) :
 ∀ (l:List Oper),(∀ o∈l,∀ cs b,o.op≠.select cs b)→(∀ o∈l,∀ d,o.dst=some d→d<m)→∀ (a:Act) (fs:Frees) (A:Slots),a.tmps.size=m→a.defers=df→(∀ (t:Nat) Φ,(t,Φ)∈fs→t<a.tmps.size) →
   (∀ t:Nat,t<a.tmps.size→∀ v W,A t v W→slot a fs t v W)→wpZ P ops w Qz l a fs→wpA P ops w m df Qa l A
 | [],_,_,a,fs,A,hm,hd,hfs,hA,h=>hQ a fs A h hm hd hfs hA
 | o :: l,hs,hds,a,fs,A,hm,hd,hfs,hA,h=>by
   have hs':∀ o∈l,∀ cs b,o.op≠.select cs b:=fun o ho=>hs o (List.mem_cons_of_mem _ ho);have hds':∀ o∈l,∀ d,o.dst=some d→d<m:=fun o ho=>hds o (List.mem_cons_of_mem _ ho);have hdrop:∀ t Φ,(t,Φ)∈dropFs o.dst fs→(t,Φ)∈fs∧o.dst≠some t:=fun t Φ hx=>by
     simp only [dropFs,List.mem_filter,bne_iff_ne,ne_eq] at hx;exact hx
   rcases h with ⟨u,h1,h2⟩ | ⟨d,Ψ,ho,hM,h1,h2⟩
   ·refine ⟨_,hm ▸ hd ▸ stepA_of_Z (hs o List.mem_cons_self) (mono_eq u) hA hfs h1,?_⟩;refine wpA_of_Z m df hQ l hs' hds' _ _ _ (by rw [put_size,hm]) (by rw [put_defers',hd]) (fun t Φ hx=>by rw [put_size];exact hfs t Φ (hdrop t Φ hx).1) (fun t ht v W hv=>?_) h2;rw [put_size] at ht;unfold slot;rw [getD_put a o.dst u t ht];unfold upd at hv
    by_cases hdt:o.dst=some t
    ·rw [if_pos hdt] at hv ⊢;exact ⟨fun Φ hx=>absurd hdt (hdrop t Φ hx).2,fun _=>hv⟩
    ·rw [if_neg hdt] at hv ⊢;have hv':=hA t ht v W hv;refine ⟨fun Φ hx=>hv'.1 Φ (hdrop t Φ hx).1,fun hx=>hv'.2 fun Φ hmm=>hx Φ ?_⟩;simp only [dropFs,List.mem_filter,bne_iff_ne,ne_eq];exact ⟨hmm,hdt⟩
   ·refine ⟨_,hm ▸ hd ▸ stepA_of_Z (hs o List.mem_cons_self) hM hA hfs h1,?_⟩;rw [← ho] at h2;have hdm:d<a.tmps.size:=by rw [hm];exact hds o List.mem_cons_self d ho
    refine wpA_of_Z m df hQ l hs' hds' _ _ _ (by rw [put_size,hm]) (by rw [put_defers',hd]) (fun t Φ hx=>?_) (fun t ht v W hv=>?_) h2
    ·rw [put_size]
     rcases List.mem_cons.1 hx with hx|hx
     ·rw [(Prod.mk.inj hx).1];exact hdm
     ·exact hfs t Φ (hdrop t Φ hx).1
    ·rw [put_size] at ht;unfold slot;rw [getD_put a o.dst undef t ht];unfold upd at hv
     by_cases hdt:o.dst=some t
     ·rw [if_pos hdt] at hv ⊢;have htd:t=d:=Option.some.inj (hdt.symm.trans ho);subst htd;refine ⟨fun Φ hx=>?_,fun hx=>absurd List.mem_cons_self (hx Ψ)⟩
      rcases List.mem_cons.1 hx with hx|hx
      ·rw [(Prod.mk.inj hx).2];exact hv
      ·exact absurd hdt (hdrop t Φ hx).2
     ·rw [if_neg hdt] at hv ⊢;have hv':=hA t ht v W hv;have htd:t≠d:=fun e=>hdt (by rw [ho,e]);refine ⟨fun Φ hx=>?_,fun hx=>hv'.2 fun Φ hmm=>hx Φ (List.mem_cons_of_mem _ ?_)⟩
      ·rcases List.mem_cons.1 hx with hx|hx
       ·exact absurd (Prod.mk.inj hx).1 htd
       ·exact hv'.1 Φ (hdrop t Φ hx).1
      ·simp only [dropFs,List.mem_filter,bne_iff_ne,ne_eq];exact ⟨hmm,hdt⟩
theorem act_eq{b c:Act}(hd:b.defers=c.defers)(hs:c.tmps.size=b.tmps.size)(h:∀ t:Nat,t<b.tmps.size→b.tmps.getD t undef=c.tmps.getD t undef):b=c:=by
 obtain ⟨bt,bd⟩:=b;obtain ⟨ct,cd⟩:=c;simp only at hd hs h;subst hd
 congr 1
 apply Array.ext hs.symm;intro i h1 h2;have:=h i h1
 simpa [h1,h2] using this
def dstsB(m:Nat)(l:List Oper):Bool:=l.all fun o=>match o.dst with|some d=>decide (d<m)|none=>true
theorem wp_region_from{P:Program}{id:Nat}{Q:Exit→Act→World→Prop}{a:Act}{w w1:World}(hk1:Keep w w1){l:List Oper}(n:Nat)(hm:P.follows .mixedOrders=true)
 (hB:(zoneB l.toArray n&&decide (n≤l.length)&&Region.noSelect l.toArray&&dstsB a.tmps.size l)=true)
 (h:wpZ P l.toArray w (fun a' fs=>∀ p:GB,fill (w.gro p) fs a' fun b=>wpList P l.toArray Q (l.drop n) b (w.gro p)) (l.take n) a []):(Code.region id l.toArray true).wp P Q a w1:=by
 simp only [Bool.and_eq_true,decide_eq_true_eq] at hB;obtain ⟨⟨⟨hz,hn⟩,hsel⟩,hds⟩:=hB;have hmem:∀ o∈l.take n,o∈l:=fun o ho=>List.mem_of_mem_take ho;refine wp_region_A hk1 n hm hz hn (A:=slot a []) (fun t v W W' _ hv=>?_) (fun d t _=>?_) ?_
 ·exact ⟨fun Φ hx=>absurd hx (by simp),fun hx=>hv.2 hx⟩
 ·exact ⟨fun Φ hx=>absurd hx (by simp),fun _=>rfl⟩
 ·refine wpA_of_Z a.tmps.size a.defers (fun a' fs A hQ hm' hd' hfs hA b W hbd hbm hW hs=>?_) (l.take n) (fun o ho cs b=>?_) (fun o ho d hd=>?_) a [] (slot a []) rfl rfl (fun t Φ hx=>absurd hx (by simp)) (fun _ _ _ _ hv=>hv) h
  ·obtain ⟨p,rfl⟩:=gro_of_below w hW;have h1:=fill_elim (b:=b) (hQ p) (fun t Φ hx=>(hA t (hfs t Φ hx) _ _ (hs t (by have:=hfs t Φ hx;omega))).1 Φ hx);have:b=putAll fs a' b:=act_eq (by rw [putAll_defers,hbd,hd']) (by rw [putAll_size,hm',hbm]) fun t ht=>by
    have hg:=putAll_getD b t fs a' (by omega)
    by_cases hx:∃ Φ,(t,Φ)∈fs
    ·exact (hg.1 hx).symm
    ·have hx':∀ Φ,(t,Φ)∉fs:=fun Φ hmm=>hx ⟨Φ,hmm⟩;rw [hg.2 hx'];exact (hA t (by omega) _ _ (hs t (by omega))).2 hx'
   rw [this];exact h1
  ·obtain ⟨i,hi⟩:=List.getElem?_of_mem (hmem o ho);exact Region.noSelect_spec hsel i o cs b (by simpa using hi)
  ·have:=List.all_eq_true.1 hds o (hmem o ho);rw [hd] at this
   simpa using this
theorem wp_region{P:Program}{id:Nat}{Q:Exit→Act→World→Prop}{a:Act}{w:World}{l:List Oper}(n:Nat)(hm:P.follows .mixedOrders=true)
 (hB:(zoneB l.toArray n&&decide (n≤l.length)&&Region.noSelect l.toArray&&dstsB a.tmps.size l)=true)
 (h:wpZ P l.toArray w (fun a' fs=>∀ p:GB,fill (w.gro p) fs a' fun b=>wpList P l.toArray Q (l.drop n) b (w.gro p)) (l.take n) a []):(Code.region id l.toArray true).wp P Q a w:=wp_region_from (Keep.refl w) n hm hB h
theorem wp_region_gro{P:Program}{id:Nat}{Q:Exit→Act→World→Prop}{a:Act}{w:World}{q:GB}{l:List Oper}(n:Nat)(hm:P.follows .mixedOrders=true)
 (hB:(zoneB l.toArray n&&decide (n≤l.length)&&Region.noSelect l.toArray&&dstsB a.tmps.size l)=true)
 (h:wpZ P l.toArray w (fun a' fs=>∀ p:GB,fill (w.gro p) fs a' fun b=>wpList P l.toArray Q (l.drop n) b (w.gro p)) (l.take n) a []):(Code.region id l.toArray true).wp P Q a (w.gro q):=wp_region_from (below_gro w q) n hm hB h
theorem wp_region_all{P:Program}{id:Nat}{Q:Exit→Act→World→Prop}{a:Act}{w:World}{l:List Oper}(hm:P.follows .mixedOrders=true)
 (hB:(zoneB l.toArray l.length&&Region.noSelect l.toArray&&dstsB a.tmps.size l)=true)
 (h:wpZ P l.toArray w (fun a' fs=>∀ p:GB,fill (w.gro p) fs a' fun b=>Q .normal b (w.gro p)) l a []):(Code.region id l.toArray true).wp P Q a w:=by
 refine wp_region l.length hm (by simp only [Bool.and_eq_true] at hB ⊢;simp [hB]) ?_;simp only [List.take_length,List.drop_length,wpList];exact h
theorem wp_region_all_gro{P:Program}{id:Nat}{Q:Exit→Act→World→Prop}{a:Act}{w:World}{q:GB}{l:List Oper}(hm:P.follows .mixedOrders=true)
 (hB:(zoneB l.toArray l.length&&Region.noSelect l.toArray&&dstsB a.tmps.size l)=true)
 (h:wpZ P l.toArray w (fun a' fs=>∀ p:GB,fill (w.gro p) fs a' fun b=>Q .normal b (w.gro p)) l a []):(Code.region id l.toArray true).wp P Q a (w.gro q):=by
 refine wp_region_gro l.length hm (by simp only [Bool.and_eq_true] at hB ⊢;simp [hB]) ?_;simp only [List.take_length,List.drop_length,wpList];exact h
section
variable {P:Program} {ops:Array Oper} {w:World} {Q:Act→Frees→Prop} {a:Act} {fs:Frees} {o:Oper} {rest:List Oper}
theorem wpZ_nil(h:Q a fs):wpZ P ops w Q [] a fs:=h
theorem wpZ_step(h:∀ K:Act→Frees→Prop,(∀ a fs,wpZ P ops w Q rest a fs→K a fs)→zone P ops w o a fs K):wpZ P ops w Q (o :: rest) a fs :=
 .inl (h _ fun _ _ h=>h)
theorem wpZ_free(d:Tmp)(Ψ:Pred)(hd:o.dst=some d)(hM:Mono Ψ)(h:stepZ P ops w o a fs Ψ)(k:wpZ P ops w Q rest (a.put (some d) undef) ((d,Ψ) :: dropFs (some d) fs)):wpZ P ops w Q (o :: rest) a fs :=
 .inr ⟨d,Ψ,hd,hM,h,k⟩
end
section
variable {w W:World}
theorem Keep.alloc(h:Keep w W)(o:Obj):Keep w (W.alloc o):=Below.alloc h h.size o
theorem Keep.gro(h:Keep w W)(p:GB):Keep w (W.gro p):=h.trans (below_gro W p)
theorem Keep.drew(h:Keep w W):Keep w W.drew:=Below.drew h
theorem Keep.drewN(h:Keep w W)(n:Nat):Keep w (W.drewN n):=⟨h.os,h.tape,h.output,h.size,h.block⟩
theorem Keep.setCell(h:Keep w W){a:Addr}(ha:w.heap.size≤a.block)(u:Value):Keep w (W.setCell a u):=Below.setCell h ha u
theorem Keep.grown{W':World}{row:Option Nat}(h:Keep w W)(hg:W.grownBy W' row)(hr:∀ k,row=some k→w.heap.size≤k):Keep w W':=Below.grown h hg h.size hr
end
section
variable {P:Program} {f:FuncId} {args:Array Value} {W:World} {v:Value}
theorem zc(h:Calls P f args W fun e w'=>e=.returned v∧Keep W w'):Calls P f args W fun e w''=>∃ u,e=.returned u∧u=v∧Keep W w'' :=
 h.mono fun _ _ ⟨h1,h2⟩=>⟨v,h1,rfl,h2⟩
theorem zs(h:Calls P f args W fun e w'=>e=.returned v∧W=w'):Calls P f args W fun e w''=>∃ u,e=.returned u∧u=v∧Keep W w'' :=
 h.mono fun _ _ ⟨h1,h2⟩=>⟨v,h1,rfl,h2 ▸ Keep.refl _⟩
end
end Go.Zone
namespace Go
theorem kp0{W:World}:Zone.Keep W W:=Zone.Keep.refl W
theorem kp1{w W:World}(h:Zone.Keep w W)(o:Obj):Zone.Keep w (W.alloc o):=Zone.Keep.alloc h o
theorem kp2{w W:World}(h:Zone.Keep w W)(p:Zone.GB):Zone.Keep w (W.gro p):=Zone.Keep.gro h p
theorem kp3{w W:World}(h:Zone.Keep w W):Zone.Keep w W.drew:=Zone.Keep.drew h
theorem kp4{w W:World}(h:Zone.Keep w W)(n:Nat):Zone.Keep w (W.drewN n):=Zone.Keep.drewN h n
end Go
namespace Go.Proofs.YtpkocnpamcchcaaGreatDoor
open Go.RowKit Go.Zone
attribute [local go_sem] zone stepZ fill lookFs goes goesUpon dropFs cell_gro frozen_gro size_gro lt_add drew_gro tape_gro keep_refl
theorem ret_int{k:IntKind}{a b:Int}(h:a=b):Ending.returned (.int k a)=.returned (.int k b):=by rw [h]
theorem ret_bool{a b:Bool}(h:a=b):Ending.returned (.bool a)=.returned (.bool b):=by rw [h]
structure Val where
 k:Int
 n:Int
 s:ByteArray
def Val.cells(x:Val):List Value:=[.int .u8 x.k,.int .i64 x.n,.string x.s]
@[reducible] def Val.v(x:Val):Value:=.agg #[.int .u8 x.k,.int .i64 x.n,.string x.s]
instance:Inhabited Val:=⟨⟨0,0,ByteArray.empty⟩⟩
def cmpI(a b:Int):Int:=if a<b then -1 else if b<a then 1 else 0
def cmpS(a b:ByteArray):Int:=if Op.bytesLess a.toList b.toList then -1 else if a.toList==b.toList then 0 else 1
def orL:List Int→Int
 | []=>0
 | x :: r=>if x=0 then orL r else x
def cmpV(a b:Val):Int:=orL [cmpI a.k b.k,cmpI a.n b.n,cmpS a.s b.s]
def mayV(x:Val):Bool:=if x.k==1 then x.s.toList.isEmpty else if x.k==2 then x.n==0&&decide ((x.s.size:Int)≤65535) else false
theorem nan8(k:Int)(w:World):Calls Tryz.prog 153 #[.int .u8 k] w fun e w'=>e=.returned (.bool false)∧w=w':=by
 go_enter Tryz.func153,Tryz.ntmps153;go_wp2;go_ret;exact ⟨by simp,rfl⟩
theorem nan64(k:Int)(w:World):Calls Tryz.prog 154 #[.int .i64 k] w fun e w'=>e=.returned (.bool false)∧w=w':=by
 go_enter Tryz.func154,Tryz.ntmps154;go_wp2;go_ret;exact ⟨by simp,rfl⟩
theorem nanS(k:ByteArray)(w:World):Calls Tryz.prog 155 #[.string k] w fun e w'=>e=.returned (.bool false)∧w=w':=by
 go_enter Tryz.func155,Tryz.ntmps155;go_wp2;go_ret;exact ⟨by simp,rfl⟩
theorem cmp8(a b:Int)(w:World):Calls Tryz.prog 106 #[.int .u8 a,.int .u8 b] w fun e w'=>e=.returned (.int .i64 (cmpI a b))∧w=w':=by
 go_enter Tryz.func106,Tryz.ntmps106;go_wp2_with (go_at_call 153;refine (nan8 _ _).mono ?_;rintro e w' ⟨rfl,rfl⟩)
 all_goals go_ret
 all_goals exact ⟨ret_int (by unfold cmpI;(repeat' split)<;>first|rfl|omega),rfl⟩
theorem cmp64(a b:Int)(w:World):Calls Tryz.prog 107 #[.int .i64 a,.int .i64 b] w fun e w'=>e=.returned (.int .i64 (cmpI a b))∧w=w':=by
 go_enter Tryz.func107,Tryz.ntmps107;go_wp2_with (go_at_call 154;refine (nan64 _ _).mono ?_;rintro e w' ⟨rfl,rfl⟩)
 all_goals go_ret
 all_goals exact ⟨ret_int (by unfold cmpI;(repeat' split)<;>first|rfl|omega),rfl⟩
theorem cmpStr(a b:ByteArray)(w:World):Calls Tryz.prog 108 #[.string a,.string b] w fun e w'=>e=.returned (.int .i64 (cmpS a b))∧w=w':=by
 go_enter Tryz.func108,Tryz.ntmps108;go_wp2_with (go_at_call 155;refine (nanS _ _).mono ?_;rintro e w' ⟨rfl,rfl⟩)
 all_goals go_ret
 all_goals exact ⟨ret_int (by unfold cmpS;simp_all),rfl⟩
theorem orL_zero:∀ (xs:List Int),(∀ i,i<xs.length→xs.getD i 0=0)→orL xs=0
 | [],_=>rfl
 | x :: r,h=>by
   have h0:x=0:=h 0 (by simp);simp only [orL,h0,if_true];exact orL_zero r fun i hi=>h (i+1) (by simpa using hi)
theorem orL_hit:∀ (xs:List Int) (k:Nat),k<xs.length→(∀ i,i<k→xs.getD i 0=0)→xs.getD k 0≠0→orL xs=xs.getD k 0
 | [],k,h,_,_=>by simp at h
 | x :: r,0,_,_,h=>by simp at h;simp [orL,h]
 | x :: r,k+1,h,h1,h2=>by
   have h0:x=0:=h1 0 (by omega);subst h0;simp only [orL,if_true];have:=orL_hit r k (by simpa using h) (fun i hi=>h1 (i+1) (by omega)) (by simpa using h2)
   simpa using this
theorem or_any(b off:Nat)(xs:List Int)(n c:Nat)(w:World)(hx:n=xs.length)(hn:n≤1000)(h:∀ i,i<n→w.cell? ⟨b,off+i,none⟩=some (.int .i64 (xs.getD i 0))) :
 Calls Tryz.prog 105 #[.slice (some ⟨b,off,none⟩) n c] w fun e w'=>e=.returned (.int .i64 (orL xs))∧w=w':=by
 have H:=lh h;clear h;have HX:=lh hx;clear hx;go_enter Tryz.func105,Tryz.ntmps105;go_wp2;go_loop [5,8] (fun _ i=>∃ k:Nat,k≤n∧i=.int .i64 k∧Hid (∀ i,i<k→xs.getD i 0=0)) (fun _ i=>n-(intOf i).toNat)
 case atStart=>exact ⟨0,Nat.zero_le _,rfl,fun i hi=>absurd hi (Nat.not_lt_zero _)⟩
 case round =>
  obtain ⟨k,hk,rfl,HR⟩:=hrel
  by_cases hlt:k<n
  ·have hc:=H.out k hlt
   by_cases hz:xs.getD k 0=0
   ·rw [hz] at hc;have HZ:=lh hz;clear hz;go_wp2;go_round
    case rel=>exact ⟨k+1,by omega,by go_num,fun i hi=>by
     by_cases e:i=k
     ·subst e;exact HZ.out
     ·exact HR.out i (by omega)⟩
    case measure=>simp [intOf];omega
   ·have hv:=orL_hit xs k (by rw [← HX.out];exact hlt) HR.out hz;generalize xs.getD k 0=x at hc hz hv;have hz':(x != 0)=true:=by simpa using hz
    have HV:=lh hv;clear hv hz;go_wp2;go_ret;exact ⟨ret_int HV.out.symm,rfl⟩
  ·go_wp2;go_ret;exact ⟨ret_int (orL_zero xs fun i hi=>HR.out i (by have:=HX.out;omega)).symm,rfl⟩
theorem compare_any(x y:Val)(w:World):Calls Tryz.prog 63 #[x.v,y.v] w fun e w'=>e=.returned (.int .i64 (cmpV x y))∧Keep w w':=by
 obtain ⟨k,n,s⟩:=x;obtain ⟨k',n',s'⟩:=y;simp only [Val.v,cmpV];go_enter Tryz.func63,Tryz.ntmps63;go_wp2
 first|refine Zone.wp_region_gro 15 (by kernel_rfl) (by kernel_rfl) ?_|refine Zone.wp_region 15 (by kernel_rfl) (by kernel_rfl) ?_
 simp only [List.take_succ_cons,List.take_zero,List.drop_succ_cons,List.drop_zero]
 repeat
  refine Zone.wpZ_step (fun K hK=>?_);go_simp
  first
  | (refine hK _ _ ?_;clear hK K)
  | (apply Exists.intro
     refine ⟨fun p=>?_,hK _ _ ?_⟩
     (first|(go_at_call 106;exact Zone.zs (cmp8 _ _ _))|(go_at_call 107;exact Zone.zs (cmp64 _ _ _))|(go_at_call 108;exact Zone.zs (cmpStr _ _ _)))
     clear hK K)
 refine Zone.wpZ_nil ?_;intro p;simp only [Zone.fill];go_wp2_with (go_at_call 105;refine (or_any _ 0 [cmpI k k',cmpI n n',cmpS s s'] 3 3 _ rfl (by omega) (fun i hi=>by match i,hi with|0,_=>simp [go_sem]|1,_=>simp [go_sem]|2,_=>simp [go_sem])).mono ?_;rintro e w' ⟨rfl,rfl⟩);go_ret;exact ⟨rfl,(by repeat first|exact kp0|apply kp1|apply kp2|apply kp3|apply kp4)⟩
theorem may_any(x:Val)(w:World):Calls Tryz.prog 102 #[x.v] w fun e w'=>e=.returned (.bool (mayV x))∧Keep w w':=by
 obtain ⟨k,n,s⟩:=x;simp only [Val.v,mayV];go_enter Tryz.func102,Tryz.ntmps102;go_wp2
 all_goals go_ret
 all_goals exact ⟨ret_bool (by simp [*]),(by repeat first|exact kp0|apply kp1|apply kp2|apply kp3|apply kp4)⟩
theorem isKind_any(k:Int)(w:World):Calls Tryz.prog 113 #[.int .u8 k] w fun e w'=>e=.returned (.bool (k==1||k==2))∧w=w':=by
 go_enter Tryz.func113,Tryz.ntmps113;go_wp2
 all_goals go_ret
 all_goals exact ⟨ret_bool (by simp [*]),rfl⟩
end Go.Proofs.YtpkocnpamcchcaaGreatDoor
namespace Go.Zone
open Go.RowKit
structure Sl{α:Type}(w:World)(k:Nat)(enc:α→List Value)(A:Option Addr)(c:Nat)(xs:List α):Prop where
 cap:xs.length≤c
 big:c≤9223372036854775807
 len:xs.length≤140737488355328
 at_:∀ i,(h:i<xs.length)→∃ b off,A=some ⟨b,off,none⟩∧∀ j u,(enc xs[i])[j]? =some u→w.cell? ⟨b,off+i*k+j,none⟩=some u
section
variable {α:Type} {w w':World} {k c:Nat} {enc:α→List Value} {A:Option Addr} {xs:List α}
theorem Sl.nil_(A:Option Addr)(hc:c≤9223372036854775807):Sl w k enc A c ([]:List α):=⟨Nat.zero_le _,hc,Nat.zero_le _,fun i h=>absurd h (Nat.not_lt_zero _)⟩
theorem Sl.keep(h:Sl w k enc A c xs)(hk:Keep w w'):Sl w' k enc A c xs :=
 ⟨h.cap,h.big,h.len,fun i hi=>by
  obtain ⟨b,off,hA,hc⟩:=h.at_ i hi;exact ⟨b,off,hA,fun j u hu=>by
   have h1:=hc j u hu;exact (Below.cell hk (p:=⟨b,off+i*k+j,none⟩) (World.block_lt_of_cell? w _ h1)).trans h1⟩⟩
theorem Sl.same(h:Sl w k enc A c xs)(hk:∀ p v,w.cell? p=some v→w'.cell? p=some v):Sl w' k enc A c xs :=
 ⟨h.cap,h.big,h.len,fun i hi=>by
  obtain ⟨b,off,hA,hc⟩:=h.at_ i hi;exact ⟨b,off,hA,fun j u hu=>hk _ _ (hc j u hu)⟩⟩
theorem Sl.place(h:Sl w k enc A c xs)(h0:0<xs.length):∃ b off,A=some ⟨b,off,none⟩∧∀ i (_h:i<xs.length) j u,(enc xs[i])[j]? =some u→w.cell? ⟨b,off+i*k+j,none⟩=some u:=by
 obtain ⟨b,off,hA,_⟩:=h.at_ 0 h0;refine ⟨b,off,hA,fun i hi j u hu=>?_⟩;obtain ⟨b',off',hA',hc⟩:=h.at_ i hi;rw [hA] at hA';injection hA' with hA';injection hA' with h1 h2;subst h1;subst h2;exact hc j u hu
theorem Sl.cut_front(h:Sl w k enc A c xs)(n:Nat)(hn:n≤xs.length):Sl w k enc A c (xs.take n) :=
 ⟨by have:=h.cap;simp;omega,h.big,by have:=h.len;simp;omega,fun i hi=>by
  simp only [List.length_take] at hi;obtain ⟨b,off,hA,hc⟩:=h.at_ i (by omega);exact ⟨b,off,hA,fun j u hu=>hc j u (by rw [List.getElem_take] at hu;exact hu)⟩⟩
end
end Go.Zone
