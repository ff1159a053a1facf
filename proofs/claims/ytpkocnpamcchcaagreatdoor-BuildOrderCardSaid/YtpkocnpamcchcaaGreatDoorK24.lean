/- Parts of the proof. -/
import Derived.Test.YtpkocnpamcchcaaGreatDoorK23
set_option maxRecDepth 100000
set_option maxHeartbeats 4000000
set_option linter.unusedSimpArgs false
set_option linter.unusedVariables false
set_option linter.unnecessarySimpa false
namespace Go.Zone
open Go.RowKit
section
variable {P:Program} {ops:Array Oper} {md:Region.Mode}
def sinkM(md:Region.Mode)(ops:Array Oper)(m n:Nat):Bool :=
 (List.range n).all fun i=>decide (i<m)||(List.range (n+1)).any fun j=>decide (i<j)&&Region.waitsFor md ops j i
def zoneM(ops:Array Oper)(m n:Nat):Bool :=
 decide (n<ops.size)&&decide (m≤n)&&sinkM .any ops m n&&Region.chainB .any ops n&&Region.lexHead .any ops (ops.size-n) n 0 (Array.replicate ops.size false)
theorem tail_waits_m{m n:Nat}{listed:Array Bool}(hs:sinkM md ops m n=true)(hc:Region.chainB md ops n=true)(hn:n<ops.size)(inv:HeadInv md ops n listed) :
 ∀ (d i:Nat),n-i=d→m≤i→i<n→listed.getD i true=false→∀ t,n≤t→t∉Region.ready md ops listed:=by
 intro d
 induction d using Nat.strongRecOn with
 | _ d ih =>
   intro i hd hmi hi hun t ht hr;obtain ⟨_,ot,hot,hall⟩:=mem_ready.1 hr;have htlt:t<ops.size:=(Array.getElem?_eq_some_iff.1 hot).1
   by_cases htn:t=n
   ·subst htn;have h1:=List.all_eq_true.1 hs i (List.mem_range.2 hi);rw [Bool.or_eq_true] at h1
    rcases h1 with h1|h1
    ·simp at h1;omega
    obtain ⟨j,hj,hj2⟩:=List.any_eq_true.1 h1;simp only [Bool.and_eq_true,decide_eq_true_eq] at hj2;obtain ⟨oj,hoj,e,he,hb,hon⟩:=Region.waitsFor_spec hj2.2;have hjle:j≤t:=by have:=List.mem_range.1 hj;omega
    by_cases hjt:j=t
    ·subst hjt;have:oj=ot:=Option.some.inj (hoj.symm.trans hot);subst this;have h2:=hall e he hb;rw [hon,getD_both hun] at h2
     cases h2
    ·cases hl:listed.getD j false with
     | true =>
       have h2:=inv.closed j oj hoj hl e he hb;rw [hon,getD_both hun] at h2
       cases h2
     | false =>
       have hjs:j<listed.size:=by rw [inv.size];omega
       exact ih (t-j) (by omega) j rfl (by omega) (by omega) (getD_in hjs hl) t (Nat.le_refl _) hr
   ·have h1:=List.all_eq_true.1 hc t (List.mem_range.2 htlt);simp only [Bool.or_eq_true,decide_eq_true_eq] at h1
    rcases h1 with h1|h1
    ·omega
    ·obtain ⟨o',ho',e,he,hb,hon⟩:=Region.waitsFor_spec h1;have:o'=ot:=Option.some.inj (ho'.symm.trans hot);subst this;have h2:=hall e he hb;rw [hon,getD_both (inv.tail (t-1) (by omega) (by omega))] at h2
     cases h2
structure InvM(md:Region.Mode)(ops:Array Oper)(m n:Nat)(listed:Array Bool):Prop where
 head:HeadInv md ops n listed
 low:∀ i,i<m→listed.getD i true=true
theorem InvM.set{m n i:Nat}{listed:Array Bool}(inv:InvM md ops m n listed)(hi:i∈Region.ready md ops listed)(hin:i<n):InvM md ops m n (listed.setIfInBounds i true) :=
 ⟨inv.head.set hi hin,fun j hj=>by
  by_cases h:i=j
  ·subst h;have:=(mem_ready.1 hi).1;rw [inv.low i hj] at this
   cases this
  ·rw [getD_set_ne true h];exact inv.low j hj⟩
theorem wpAnyA_firstM{w0:World}{m':Nat}{df:List Deferred}{m n i:Nat}{oi:Oper}{Ψi:Pred}{L:Array Bool→Slots→Prop}(hi:ops[i]? =some oi)
 (hhead:∀ listed,InvM md ops m n listed→(∃ i,i<n∧listed.getD i true=false)→∀ j∈Region.ready md ops listed,j<n) (hin:i<n)
 (hdone:∀ listed A,L listed A→∀ j∈Region.ready md ops listed,n≤j) :
 ∀ (f:Nat) (listed:Array Bool) (A:Slots),InvM md ops m n listed →
   (∀ j oj,ops[j]? =some oj→j≠i→listed.getD j true=false→(∀ e∈oj.after,Region.binds md e=true→e.on≠i)→oi.apart ops oj=true) →
   i∈Region.ready md ops listed→stepA P ops w0 m' df A oi Ψi →
   wpAnyA P md ops w0 m' df n L f (listed.setIfInBounds i true) (upd A oi.dst Ψi)→wpAnyA P md ops w0 m' df n L (f+1) listed A:=by
 intro f
 induction f with
 | zero =>
   intro listed A inv _ hr hy H;have hun:=(mem_ready.1 hr).1;refine ⟨fun h=>(by rw [h] at hr;cases hr),fun j hj=>?_⟩;have hjn:j<n:=hhead listed inv ⟨i,hin,hun⟩ j hj;refine ⟨hjn,?_⟩
   by_cases hji:j=i
   ·subst hji;exact ⟨oi,Ψi,hi,hy,H⟩
   ·have:=hdone _ _ H j (ready_mono hj hji);omega
 | succ f ih =>
   intro listed A inv hfree hr hy H;have hun:=(mem_ready.1 hr).1;refine ⟨fun h=>(by rw [h] at hr;cases hr),fun j hj=>?_⟩;have hjn:j<n:=hhead listed inv ⟨i,hin,hun⟩ j hj;refine ⟨hjn,?_⟩
   by_cases hji:j=i
   ·subst hji;exact ⟨oi,Ψi,hi,hy,H⟩
   ·obtain ⟨_,oj,Ψj,hoj,hsj,hrest⟩:=H.2 j (ready_mono hj hji);obtain ⟨hjun,oj',hoj',hall⟩:=mem_ready.1 hj;have:oj'=oj:=Option.some.inj (hoj'.symm.trans hoj);subst this;have hnot:∀ e∈oj'.after,Region.binds md e=true→e.on≠i:=fun e he hb heq=>by
     have h1:=hall e he hb;rw [heq,getD_both hun] at h1
     cases h1
    obtain ⟨h1,h2,h3⟩:=Oper.apart_spec (hfree j oj' hoj hji hjun hnot);have hfree':∀ k ok,ops[k]? =some ok→k≠i→(listed.setIfInBounds j true).getD k true=false →
     (∀ e∈ok.after,Region.binds md e=true→e.on≠i)→oi.apart ops ok=true:=fun k ok hk hki hun hno=>by
     refine hfree k ok hk hki ?_ hno
     by_cases hjk:j=k
     ·subst hjk;exact hjun
     ·rw [getD_set_ne true hjk] at hun;exact hun
    refine ⟨oj',Ψj,hoj,stepA_congr hsj (fun t ht=>(upd_other A Ψi h1 t ht).symm),?_⟩;refine ih (listed.setIfInBounds j true) _ (inv.set hj hjn) hfree' (ready_mono hr (Ne.symm hji)) (stepA_congr hy (upd_other A Ψj h3)) ?_;rw [Array.setIfInBounds_comm _ _ hji,← upd_comm A Ψi Ψj h2];exact hrest
theorem wpAnyA_lexM{w0:World}{m':Nat}{df:List Deferred}{m n g:Nat}{Lq:Slots→Prop}(hhead:∀ listed,InvM md ops m n listed→(∃ i,i<n∧listed.getD i true=false)→∀ j∈Region.ready md ops listed,j<n) :
 ∀ (l:List Oper) (k:Nat) (listed:Array Bool) (A:Slots),(∀ j,j<l.length→l[j]? =ops[k+j]?)→k+l.length=n→InvM md ops m n listed →
 Region.lexHead md ops g l.length k listed=true→wpA P ops w0 m' df Lq l A →
 wpAnyA P md ops w0 m' df n (fun listed' A'=>Region.seqB md ops g n listed'=true∧Lq A') l.length listed A
 | [],k,listed,A,_,hk,_,hB,h=>by
   have:k=n:=by simpa using hk
   subst this;exact ⟨by simpa [Region.lexHead] using hB,h⟩
 | o :: l,k,listed,A,hl,hk,inv,hB,h=>by
   have h0:ops[k]? =some o:=by simpa using (hl 0 (by simp)).symm
   simp only [List.length_cons,Region.lexHead,Bool.and_eq_true] at hB;obtain ⟨⟨hr,hf⟩,hB'⟩:=hB;have hkn:k<n:=by simp only [List.length_cons] at hk;omega
   have hr':k∈Region.ready md ops listed:=by simpa using hr
   obtain ⟨Ψ,hy,hK⟩:=h;exact wpAnyA_firstM h0 hhead hkn (fun listed' A' hL=>seqB_ready hL.1) l.length listed A inv (Region.free_spec h0 hf) hr' hy
     (wpAnyA_lexM hhead l (k+1) _ _ (fun j hj=>by have:=hl (j+1) (by simp;omega);simpa [Nat.add_assoc,Nat.add_comm 1 j] using this) (by simp only [List.length_cons] at hk;omega) (inv.set hr' hkn) hB' hK)
def wpI(P:Program)(ops:Array Oper)(Q:Act→Prop):List Oper→Act→Prop
 | [],a=>Q a
 | o :: rest,a=>∃ v,Yields P ops o v a∧wpI P ops Q rest (a.put o.dst v)
theorem wpAny_idle{Q:Exit→Act→World→Prop}{n g:Nat}{w:World}(hs:Region.noSelect ops=true)(hQ:∀ c a a' w,Q (.panic c) a w→Q (.panic c) a' w){R:Act→Prop}(df:List Deferred)(sz:Nat) :
 ∀ (l:List Oper) (k f:Nat) (listed:Array Bool) (a:Act),(∀ j,j<l.length→l[j]? =ops[k+j]?)→k+l.length≤n→HeadInv md ops n listed→(∀ i,i<k→listed.getD i true=true) →
 Region.lexHead md ops g (l.length+f) k listed=true→a.defers=df→a.tmps.size=sz→wpI P ops R l a →
 (∀ listed' a',HeadInv md ops n listed'→(∀ i,i<k+l.length→listed'.getD i true=true)→Region.lexHead md ops g f (k+l.length) listed'=true→a'.defers=df→a'.tmps.size=sz→R a'→wpAny P md ops Q (f+g) listed' a' w) →
 wpAny P md ops Q (l.length+(f+g)) listed a w
 | [],k,f,listed,a,_,_,inv,hlow,hB,hd,hsz,h,H=>by
   simp only [List.length_nil,Nat.zero_add,Nat.add_zero] at hB H ⊢;exact H listed a inv hlow hB hd hsz h
 | o :: l,k,f,listed,a,hl,hk,inv,hlow,hB,hd,hsz,h,H=>by
   have h0:ops[k]? =some o:=by simpa using (hl 0 (by simp)).symm
   simp only [List.length_cons] at hk hB H ⊢;rw [show l.length+1+f=(l.length+f)+1 by omega] at hB;simp only [Region.lexHead,Bool.and_eq_true] at hB;obtain ⟨⟨hr,hf⟩,hB'⟩:=hB;obtain ⟨v,hy,hK⟩:=h;rw [show l.length+1+(f+g)=(l.length+(f+g))+1 by omega];refine wpAny_take h0 hs hf hr (fun c a w h=>hQ c _ _ w h) hy ?_;have hr':k∈Region.ready md ops listed:=by simpa using hr
   refine wpAny_idle hs hQ df sz l (k+1) f _ _ (fun j hj=>by have:=hl (j+1) (by simp;omega);simpa [Nat.add_assoc,Nat.add_comm 1 j] using this) (by omega) (inv.set hr' (by omega)) (fun i hi=>?_) hB' (by rw [put_defers',hd]) (by rw [put_size,hsz]) hK
     (fun listed' a' i1 i2 i3 i4 i5 i6=>H listed' a' i1 (by rw [show k+(l.length+1)=k+1+l.length by omega];exact i2) (by rw [show k+(l.length+1)=k+1+l.length by omega];exact i3) i4 i5 i6)
   by_cases hik:k=i
   ·subst hik;have hks:k<listed.size:=by rw [inv.size];exact (Array.getElem?_eq_some_iff.1 h0).1
    simp [hks]
   ·rw [getD_set_ne true hik];exact hlow i (by omega)
end
def Calm(Q:Exit→Act→World→Prop):Exit→Act→World→Prop
 | .normal,a,w=>Q .normal a w
 | _,_,_=>False
theorem calm_normal(Q:Exit→Act→World→Prop)(a:Act)(w:World):Calm Q .normal a w=Q .normal a w:=rfl
theorem wp_region_m_from{P:Program}{id:Nat}{Q:Exit→Act→World→Prop}{a:Act}{w w1:World}(hk1:Keep w w1){l:List Oper}(m n:Nat)(hm:P.follows .mixedOrders=true)
 (hB:(zoneM l.toArray m n&&decide (n≤l.length)&&Region.noSelect l.toArray&&dstsB a.tmps.size l)=true)
 (h:wpI P l.toArray (fun a0=>wpZ P l.toArray w (fun a' fs=>∀ p:GB,fill (w.gro p) fs a' fun b=>wpList P l.toArray (Calm Q) (l.drop n) b (w.gro p)) ((l.take n).drop m) a0 []) (l.take m) a):(Code.region id l.toArray true).wp P Q a w1:=by
 simp only [zoneM,Bool.and_eq_true,decide_eq_true_eq] at hB;obtain ⟨⟨⟨⟨⟨⟨⟨hns,hmn⟩,hsink⟩,hchain⟩,hlex⟩,hn⟩,hsel⟩,hds⟩:=hB;have htl:((l.take n).drop m).length=n-m:=by simp;omega
 have hml:(l.take m).length=m:=by simp;omega
 have hdl:(l.drop n).length=l.toArray.size-n:=by simp
 have inv0:HeadInv .any l.toArray n (Array.replicate l.toArray.size false) :=
  ⟨by simp,fun j oj _ hl=>(by rw [getD_replicate_false] at hl;cases hl),fun t _ ht=>getD_in (by simpa using ht) (getD_replicate_false _ _)⟩
 refine wp_mono (Q:=Calm Q) ?_ (fun e a w h=>by cases e<;>first|exact h|exact h.elim);refine wp_region_any hm ?_;have hk2:Below w.heap.size w { w1 with drawn:=w1.drawn+1 }:=⟨hk1.os,hk1.tape,hk1.output,hk1.size,hk1.block⟩;have key:=wpAny_idle (P:=P) (md:=.any) (ops:=l.toArray) (Q:=Calm Q) (n:=n) (g:=l.toArray.size-n) (w:={ w1 with drawn:=w1.drawn+1 }) hsel (fun _ _ _ _ h=>h.elim) a.defers a.tmps.size (l.take m) 0 (n-m) _ a
  (fun j hj=>by have hj':j<m:=by rw [hml] at hj;exact hj
                simp [hj']) (by rw [hml];omega) inv0 (fun i hi=>by omega) (by rw [hml,show m+(n-m)=n by omega];exact hlex) rfl rfl h
  (fun listed a0 i1 i2 i3 i4 i5 i6=>by
    rw [hml,Nat.zero_add] at i2 i3;have hhead:∀ listed,InvM .any l.toArray m n listed→(∃ i,i<n∧listed.getD i true=false)→∀ j∈Region.ready .any l.toArray listed,j<n:=fun listed inv hx j hj=>by
     obtain ⟨i,hi,hun⟩:=hx
     rcases Nat.lt_or_ge j n with h|h
     ·exact h
     ·have hmi:m≤i:=by
       rcases Nat.lt_or_ge i m with h'|h'
       ·rw [inv.low i h'] at hun;cases hun
       ·exact h'
      exact absurd hj (tail_waits_m hsink hchain hns inv.head _ i rfl hmi hi hun j h)
    have hmem:∀ o∈(l.take n).drop m,o∈l:=fun o ho=>List.mem_of_mem_take (List.mem_of_mem_drop ho);have hA0:MonoA (slot a0 []):=fun t v W W' _ hv=>⟨fun Φ hx=>absurd hx (by simp),fun hx=>hv.2 hx⟩;have hwp:wpA P l.toArray w a0.tmps.size a0.defers (fun A=>∀ b W,b.defers=a0.defers→b.tmps.size=a0.tmps.size→Below w.heap.size w W→sees A a0.tmps.size b W→wpList P l.toArray (Calm Q) (l.drop n) b W) ((l.take n).drop m) (slot a0 []):=by
     refine wpA_of_Z a0.tmps.size a0.defers (fun a' fs A hQ' hm' hd' hfs hA b W hbd hbm hW hs=>?_) _ (fun o ho cs b=>?_) (fun o ho d hd=>?_) a0 [] (slot a0 []) rfl rfl (fun t Φ hx=>absurd hx (by simp)) (fun _ _ _ _ hv=>hv) i6
     ·obtain ⟨p,rfl⟩:=gro_of_below w hW;have h1:=fill_elim (b:=b) (hQ' p) (fun t Φ hx=>(hA t (hfs t Φ hx) _ _ (hs t (by have:=hfs t Φ hx;omega))).1 Φ hx);have:b=putAll fs a' b:=act_eq (by rw [putAll_defers,hbd,hd']) (by rw [putAll_size,hm',hbm]) fun t ht=>by
       have hg:=putAll_getD b t fs a' (by omega)
       by_cases hx:∃ Φ,(t,Φ)∈fs
       ·exact (hg.1 hx).symm
       ·have hx':∀ Φ,(t,Φ)∉fs:=fun Φ hmm=>hx ⟨Φ,hmm⟩;rw [hg.2 hx'];exact (hA t (by omega) _ _ (hs t (by omega))).2 hx'
      rw [this];exact h1
     ·obtain ⟨i,hi⟩:=List.getElem?_of_mem (hmem o ho);exact Region.noSelect_spec hsel i o cs b (by simpa using hi)
     ·have:=List.all_eq_true.1 hds o (hmem o ho);rw [hd] at this;rw [i5]
      simpa using this
    have H:=wpAnyA_lexM (md:=.any) (g:=l.toArray.size-n) hhead ((l.take n).drop m) m listed (slot a0 []) (fun j hj=>by
     rw [htl] at hj;simp [List.getElem?_drop,List.getElem?_take];omega) (by rw [htl];omega) ⟨i1,i2⟩ (by rw [htl];exact i3) hwp
    have:=wpAny_of_A (Q':=Calm Q) (g:=l.toArray.size-n) (fun listed A' b W hL hd hm hW hs=>by
     have:=wpAny_of_seq (md:=.any) (Q':=Calm Q) (l.drop n) n listed b W (fun j=>by simp [List.getElem?_drop]) (by rw [hdl];exact hL.1) (hL.2 b W hd hm hW hs)
     rwa [hdl] at this) _ _ _ hA0 H a0 { w1 with drawn:=w1.drawn+1 } rfl rfl hk2 (fun t _=>⟨fun Φ hx=>absurd hx (by simp),fun _=>rfl⟩)
    rw [htl] at this;exact this)
 have hsz:l.toArray.size=l.length:=by simp
 rw [hml,show m+(n-m+(l.toArray.size-n))=l.toArray.size by omega] at key;exact key
theorem wp_region_m{P:Program}{id:Nat}{Q:Exit→Act→World→Prop}{a:Act}{w:World}{l:List Oper}(m n:Nat)(hm:P.follows .mixedOrders=true)
 (hB:(zoneM l.toArray m n&&decide (n≤l.length)&&Region.noSelect l.toArray&&dstsB a.tmps.size l)=true)
 (h:wpI P l.toArray (fun a0=>wpZ P l.toArray w (fun a' fs=>∀ p:GB,fill (w.gro p) fs a' fun b=>wpList P l.toArray (Calm Q) (l.drop n) b (w.gro p)) ((l.take n).drop m) a0 []) (l.take m) a):(Code.region id l.toArray true).wp P Q a w:=wp_region_m_from (Keep.refl w) m n hm hB h
theorem wp_region_m_gro{P:Program}{id:Nat}{Q:Exit→Act→World→Prop}{a:Act}{w:World}{q:GB}{l:List Oper}(m n:Nat)(hm:P.follows .mixedOrders=true)
 (hB:(zoneM l.toArray m n&&decide (n≤l.length)&&Region.noSelect l.toArray&&dstsB a.tmps.size l)=true)
 (h:wpI P l.toArray (fun a0=>wpZ P l.toArray w (fun a' fs=>∀ p:GB,fill (w.gro p) fs a' fun b=>wpList P l.toArray (Calm Q) (l.drop n) b (w.gro p)) ((l.take n).drop m) a0 []) (l.take m) a):(Code.region id l.toArray true).wp P Q a (w.gro q):=wp_region_m_from (below_gro w q) m n hm hB h
theorem wpI_step{P:Program}{ops:Array Oper}{Q:Act→Prop}{o:Oper}{rest:List Oper}{a:Act}(v:Value)(h:Region.wanted o (yielded ops a.tmps)=true)(h1:∀ w,(execOp a.eval o).run P w=.ok (.value v) w)(h2:wpI P ops Q rest (a.put o.dst v)):wpI P ops Q (o :: rest) a :=
 ⟨v,.inl ⟨h,h1⟩,h2⟩
theorem wpI_nil{P:Program}{ops:Array Oper}{Q:Act→Prop}{a:Act}(h:Q a):wpI P ops Q [] a:=h
end Go.Zone
namespace Go.Proofs.YtpkocnpamcchcaaGreatDoor
open Go.RowKit Go.Zone Go.Shelf
attribute [local go_sem] zone stepZ fill lookFs goes goesUpon dropFs cell_gro frozen_gro size_gro lt_add drew_gro tape_gro keep_refl
attribute [local go_sem] lt_add2 lt_add3 lt_add4 lt_add5 lt_add6 lt_add7 lt_add8 lt_add9 lt_add10 lt_add11 lt_add12
attribute [local go_sem] calm_normal
theorem own_some'{α:Type}{w:World}{base k:Nat}{e:TypeId}{enc:α→List Value}{v:Value}{xs:List α}(h:Zone.Own w base e k enc v xs)(h0:xs≠[]):∃ g c,v=.slice (some ⟨g,0,none⟩) xs.length c:=by
 rcases h.2 with ⟨rfl,hn⟩ | ⟨g,cap,cur,rfl,_⟩
 ·exact absurd (List.eq_nil_of_length_eq_zero hn) h0
 ·exact ⟨g,cap,rfl⟩
theorem zone_app2{α:Type}{P:Program}{W:World}{t e:TypeId}{k bytes:Nat}(E:Elt P t e k bytes){enc:α→List Value}(hk:∀ x,(enc x).length=k)(h1:∀ x,∀ u∈enc x,u.oneCell'=true){o:Oper}{b:Act}{Ψ:Zone.Pred}
 (s x:Operand) (ho:o.op=.call { callee:=.builtin .append,args:=#[s,x],argTypes:=#[t,t] })
 {base:Nat} {v:Value} {xs ys:List α} (hown:Zone.Own W base e k enc v xs) (hs:b.eval s=v) (hnil:v.ownBlock=none) {A:Option Addr} {c:Nat} (hx:b.eval x=.slice A ys.length c) (hy:Sl W k enc A c ys)
 (hlen:(xs.length+ys.length)*bytes≤140737488355328) (hbase:base≤W.heap.size) (hΨ:∀ v' w',Zone.Own w' base e k enc v' (xs++ys)→Keep W w'→Ψ v' w'):Zone.goes P o b W Ψ:=by
 obtain ⟨v',w',hr,h2,h3,h4⟩:=run_app1 (ty:=o.type) E hk h1 hown hy hlen hbase;have hK:Keep W w':=Keep.grown (Keep.refl _) h3 (fun k e=>by rw [hnil] at e;cases e);unfold Zone.goes execOp;simp only [ho,resolve,invoke,builtin,Sem.run_bind,Sem.run_pure,Result.andThen_ok,List.map_toArray,List.map_cons,List.map_nil,hs,hx,hr];exact ⟨hΨ v' w' h2 hK,hK⟩
theorem step_free1'{P:Program}{ops:Array Oper}{w:World}{o:Oper}{a:Act}{fs:Zone.Frees}{Ψ:Zone.Pred}{d:Tmp}{Φ:Zone.Pred}(hl:Zone.lookFs ops o fs=[(d,Φ)])
 (h:∀ p v,Φ v (w.gro p)→if Region.wanted o (yielded ops (a.put (some d) v).tmps) then Zone.goes P o (a.put (some d) v) (w.gro p) Ψ else Ψ undef (w.gro p)):Zone.stepZ P ops w o a fs Ψ:=fun p=>by
 rw [hl];exact fun v hv=>h p v hv
structure Cm where
 k:Nat
 A1:Option Addr
 n1:Nat
 c1:Nat
 A2:Option Addr
 n2:Nat
 c2:Nat
 A3:Option Addr
 n3:Nat
 c3:Nat
def Cm.cells(m:Cm):List Value:=[.int .u8 (m.k:Int),.slice m.A1 m.n1 m.c1,.slice m.A2 m.n2 m.c2,.slice m.A3 m.n3 m.c3]
@[reducible] def Cm.v(m:Cm):Value:=.agg #[.int .u8 (m.k:Int),.slice m.A1 m.n1 m.c1,.slice m.A2 m.n2 m.c2,.slice m.A3 m.n3 m.c3]
theorem cm_len(m:Cm):m.cells.length=4:=rfl
theorem cm_one(m:Cm):∀ u∈m.cells,u.oneCell'=true:=fun u hu=>by
 simp only [Cm.cells,List.mem_cons,List.not_mem_nil,or_false] at hu
 rcases hu with rfl|rfl|rfl|rfl<;>rfl
theorem cm_at{w:World}{g:Nat}{m:Cm}(h0:w.cell? ⟨g,0,none⟩=some (.int .u8 (m.k:Int)))(h1:w.cell? ⟨g,1,none⟩=some (.slice m.A1 m.n1 m.c1))(h2:w.cell? ⟨g,2,none⟩=some (.slice m.A2 m.n2 m.c2))(h3:w.cell? ⟨g,3,none⟩=some (.slice m.A3 m.n3 m.c3)):∀ j u,m.cells[j]? =some u→w.cell? ⟨g,j,none⟩=some u
 | 0,_,h=>by cases h;exact h0
 | 1,_,h=>by cases h;exact h1
 | 2,_,h=>by cases h;exact h2
 | 3,_,h=>by cases h;exact h3
theorem elt_con:Elt Tryz.prog 232 237 4 80:=by
 obtain ⟨i,hi,h1,h2,h3⟩:=info_partsV (show (Tryz.prog.info? 237).map (fun i=>(i.zero,i.size,i.bytes))=some (some (.agg #[.int .u8 0,.slice none 0 0,.slice none 0 0,.slice none 0 0]),4,80) by kernel_rfl);exact ⟨i,_,Tryz.underlying232,hi,h1,h2,h3,rfl,by decide,by decide⟩
abbrev OwnCm(w:World)(base:Nat)(v:Value)(xs:List Cm):Prop:=Own w base 237 4 Cm.cells v xs
theorem con_cm{w:World}{c:Roa.Con}{v:Value}(h:ConAt w c v):∃ m:Cm,v=m.v:=by
 obtain ⟨k,A1,n1,c1,A2,n2,c2,A3,n3,c3,rfl⟩:=con_form h;exact ⟨⟨k,A1,n1,c1,A2,n2,c2,A3,n3,c3⟩,rfl⟩
inductive SetAt (w:World):Option Roa.Con→Value→Prop
 | nil_ (b:Nat) (h:Row w b 242 [.slice none 0 0,.slice none 0 0]):SetAt w none (.pointer (some ⟨b,0,none⟩))
 | one (b:Nat) (kv lv:Value) (c:Roa.Con) (m:Cm) (h:Row w b 242 [kv,lv]) (hk:OwnU16 w 0 kv [0]) (hl:OwnCm w 0 lv [m]) (hc:ConAt w c m.v):SetAt w (some c) (.pointer (some ⟨b,0,none⟩))
theorem SetAt.keep{w w':World}{s:Option Roa.Con}{v:Value}(h:SetAt w s v)(hk:Keep w w'):SetAt w' s v:=by
 cases h with
 | nil_ b h=>exact .nil_ b (h.keep hk)
 | one b kv lv c m h hk' hl hc=>exact .one b kv lv c m (h.keep hk) (hk'.keep hk) (hl.keep hk) (hc.keep hk)
structure OffS(w:World)(S:List Nat):Prop where
 s:Off w S 242
 c:Off w S 237
 n:OffN w S
theorem SetAt.off{w w':World}{s:Option Roa.Con}{v:Value}{S:List Nat}(h:SetAt w s v)(ho:OffS w S)(ht:Turn w w' S):SetAt w' s v:=by
 cases h with
 | nil_ b h=>exact .nil_ b (ho.s.row h ht)
 | one b kv lv c m h hk hl hc=>exact .one b kv lv c m (ho.s.row h ht) (ho.n.na.own hk ht) (ho.c.own hl ht) (hc.off ho.n ht)
theorem offS_row{w:World}{g:Nat}{T:TypeId}{vs:List Value}(h:Row w g T vs)(h1:T≠126)(h2:T≠47)(h3:T≠277)(h4:T≠242)(h5:T≠237):OffS w [g]:=⟨off_row h h4,off_row h h5,offN_row h h1 h2 h3⟩
theorem offS_own{α:Type}{w:World}{b k:Nat}{T:TypeId}{n:α→List Value}{v:Value}{xs:List α}(h:Own w b T k n v xs)(h1:T≠126)(h2:T≠47)(h3:T≠277)(h4:T≠242)(h5:T≠237):OffS w v.ownBlock.toList:=⟨off_own h h4,off_own h h5,offN_own h h1 h2 h3⟩
theorem rnew_any(w:World):Calls Tryz.prog 130 #[] w fun e w'=>∃ b,e=.returned (.pointer (some ⟨b,0,none⟩))∧Row w' b 242 [.slice none 0 0,.slice none 0 0]∧w.heap.size≤b∧Keep w w':=by
 have hr:=row_alloc w 242 [.slice none 0 0,.slice none 0 0];go_enter Tryz.func130,Tryz.ntmps130;go_wp2;go_ret;exact ⟨_,rfl,hr,Nat.le_refl _,(by repeat first|exact kp0|apply kp1|apply kp2|apply kp3|apply kp4)⟩
theorem push_any(s:Nat)(A:Option Addr)(c:Nat)(a:List Nat)(w:World)(hr:Row w s 242 [.slice none 0 0,.slice none 0 0])(h:Sl w 1 u16V A c a)(hi:Inc a)(hb:∀ x∈a,x<64)(hl:a.length≤2000)(htab:Tab w) :
 Calls Tryz.prog 168 #[.pointer (some ⟨s,0,none⟩),.int .u16 0,.slice A a.length c] w fun e w'=>e=.returned (.tuple #[])∧SetAt w' (some ((Roa.Con.arr a).canon TB)) (.pointer (some ⟨s,0,none⟩))∧Turn w w' [s]:=by
 have HO:=lh (ofarr_any A c a w h hi (by omega));have HF:=lh (show Fit (.arr a) from ⟨hb,hl⟩);have HT:=lh htab;have HR:=lh hr;have HN:=lh (rfl:a.length=a.length);generalize a.length=n at HO ⊢;clear h hi hb hl htab hr HN;go_enter Tryz.func168,Tryz.ntmps168;go_wp2_with (go_at_call 202;refine hold ?_);refine unhold ?_;refine HO.out.mono ?_;rintro e w1 ⟨v,rfl,hc,hk1⟩;obtain ⟨m,rfl⟩:=con_cm hc;have HC:=lh hc;have HK1:=lh hk1;have HR1:=lh (HR.out.keep hk1);clear hc hk1 HO HR;obtain ⟨mk,mA1,mn1,mc1,mA2,mn2,mc2,mA3,mn3,mc3⟩:=m;simp only [Cm.v] at HC;go_upto_region 1 with fail;have hRB:Row (w1.alloc (.cells #[.int .u8 mk,.slice mA1 mn1 mc1,.slice mA2 mn2 mc2,.slice mA3 mn3 mc3] 237)) w1.heap.size 237 [.int .u8 mk,.slice mA1 mn1 mc1,.slice mA2 mn2 mc2,.slice mA3 mn3 mc3]:=row_alloc _ _ _;have hKB:Keep w1 (w1.alloc (.cells #[.int .u8 mk,.slice mA1 mn1 mc1,.slice mA2 mn2 mc2,.slice mA3 mn3 mc3] 237)):=(by repeat first|exact kp0|apply kp1|apply kp2|apply kp3|apply kp4);generalize w1.alloc (.cells #[.int .u8 mk,.slice mA1 mn1 mc1,.slice mA2 mn2 mc2,.slice mA3 mn3 mc3] 237)=w2 at hRB hKB ⊢;generalize w1.heap.size=b at hRB ⊢;have HK2:=lh (HK1.out.trans hKB);have HR2:=lh (HR1.out.keep hKB);have HCA:=lh (fun W (hW:Keep w2 W)=>canon_any (HC.out.keep (hKB.trans hW)) HF.out (HT.out.keep ((HK1.out.trans hKB).trans hW)));have y0:=hRB.cell 0 _ rfl;have y1:=hRB.cell 1 _ rfl;have y2:=hRB.cell 2 _ rfl;have y3:=hRB.cell 3 _ rfl;have hbs:=hRB.lt;have s0:=HR2.out.cell 0 _ rfl;have s1:=HR2.out.cell 1 _ rfl
 have hss:=HR2.out.lt;clear hRB hKB HC HK1 HR1
 first|refine Zone.wp_region_m_gro 2 17 (by kernel_rfl) (by kernel_rfl) ?_|refine Zone.wp_region_m 2 17 (by kernel_rfl) (by kernel_rfl) ?_
 simp only [List.take_succ_cons,List.take_zero,List.drop_succ_cons,List.drop_zero]
 repeat (refine Zone.wpI_step _ (by rfl) (fun _=>by rfl) ?_)
 refine Zone.wpI_nil ?_
 repeat
  refine Zone.wpZ_step (fun K hK=>?_);go_simp
  first
  | (refine hK _ _ ?_;clear hK K)
  | (apply Exists.intro
     refine ⟨fun p=>?_,hK _ _ ?_⟩
     (fail)
     clear hK K)
 refine Zone.wpZ_free 20 (fun u W=>∃ g,u=.slice (some ⟨g,0,none⟩) 1 1∧Sl W 1 u16V (some ⟨g,0,none⟩) 1 [0]) rfl (fun _ W W' hk ⟨g,h1,h2⟩=>⟨g,h1,h2.keep hk⟩) ?_ ?_
 ·intro p;simp only [Zone.fill,Zone.lookFs,List.filter_nil];go_simp;exact ⟨sl_one _ (by decide) (by decide) (fun j q hq=>by match j,hq with|0,hq=>cases hq;simp [go_sem]),Keep.alloc (Keep.refl _) _⟩
 refine Zone.wpZ_free 21 (fun u W=>OwnU16 W w2.heap.size u [0]) rfl (fun _ W W' hk h=>Zone.Own.keep h hk) ?_ ?_
 ·refine step_free1' (d:=20) (by rfl) (fun p v hv=>?_);obtain ⟨g,rfl,hsl⟩:=hv;rw [if_pos (by rfl)];exact zone_app2 elt_u16 u16_len u16_one (.tmp 18) (.tmp 20) rfl (Zone.Own.nil_ _ w2.heap.size _ _ _) rfl rfl rfl hsl (by simp) (below_gro w2 p).size (fun v' w' h _=>h)
 iterate 5
  refine Zone.wpZ_step (fun K hK=>?_);unfold Zone.zone Zone.stepZ;rw [Zone.lookFs_nil (by rfl)];go_simp
  (refine hK _ _ ?_;clear hK K)
 refine Zone.wpZ_free 27 (fun u W=>∃ m:Cm,u=m.v∧ConAt W ((Roa.Con.arr a).canon TB) m.v) rfl (fun _ W W' hk ⟨m,h1,h2⟩=>⟨m,h1,h2.keep hk⟩) ?_ ?_
 ·intro p;rw [Zone.lookFs_nil (by rfl)];simp only [Zone.fill];go_simp;go_at_call 203;refine (HCA.out _ (by repeat first|exact kp0|apply kp1|apply kp2|apply kp3|apply kp4)).mono ?_;rintro e w5 ⟨u,rfl,hc5,hk5⟩;obtain ⟨m5,rfl⟩:=con_cm hc5;exact ⟨_,rfl,⟨m5,rfl,hc5⟩,hk5⟩
 refine Zone.wpZ_free 28 (fun u W=>∃ (g:Nat) (m:Cm),u=.slice (some ⟨g,0,none⟩) 1 1∧Sl W 4 Cm.cells (some ⟨g,0,none⟩) 1 [m]∧ConAt W ((Roa.Con.arr a).canon TB) m.v) rfl (fun _ W W' hk ⟨g,m,h1,h2,h3⟩=>⟨g,m,h1,h2.keep hk,h3.keep hk⟩) ?_ ?_
 ·refine step_free1' (d:=27) (by rfl) (fun p v hv=>?_);obtain ⟨m5,rfl,hc5⟩:=hv;rw [if_pos (by rfl)];obtain ⟨k5,A51,n51,c51,A52,n52,c52,A53,n53,c53⟩:=m5;simp only [Cm.v] at hc5 ⊢;unfold Zone.goes;go_simp;exact ⟨⟨⟨k5,A51,n51,c51,A52,n52,c52,A53,n53,c53⟩,sl_one _ (by decide) (by decide) (cm_at (by simp [go_sem]) (by simp [go_sem]) (by simp [go_sem]) (by simp [go_sem])),hc5.keep (Keep.alloc (Keep.refl _) _)⟩,Keep.alloc (Keep.refl _) _⟩
 refine Zone.wpZ_free 29 (fun u W=>∃ m:Cm,OwnCm W w2.heap.size u [m]∧ConAt W ((Roa.Con.arr a).canon TB) m.v) rfl (fun _ W W' hk ⟨m,h1,h2⟩=>⟨m,Zone.Own.keep h1 hk,h2.keep hk⟩) ?_ ?_
 ·refine step_free1' (d:=28) (by rfl) (fun p v hv=>?_);obtain ⟨g,m5,rfl,hsl,hc5⟩:=hv;rw [if_pos (by rfl)];exact zone_app2 elt_con cm_len cm_one (.tmp 25) (.tmp 28) rfl (Zone.Own.nil_ _ w2.heap.size _ _ _) rfl rfl rfl hsl (by simp) (below_gro w2 p).size (fun v' w' h hK=>⟨m5,h,hc5.keep hK⟩)
 refine Zone.wpZ_nil ?_;intro p;simp only [Zone.fill];rintro v29 ⟨m9,hl9,hc9⟩ v28 _ v27 _ v21 hk9 v20 _;have hk3:Keep w2 (w2.gro p):=(by repeat first|exact kp0|apply kp1|apply kp2|apply kp3|apply kp4);obtain ⟨g1,d1,rfl⟩:=own_some' hl9 (by simp);obtain ⟨g2,d2,rfl⟩:=own_some' hk9 (by simp);simp only [List.length_cons,List.length_nil,Nat.zero_add] at hl9 hk9 ⊢;generalize w2.gro p=w3 at hk3 hl9 hc9 hk9 ⊢;have HR3:=lh (HR2.out.keep hk3);have HL9:=lh (hl9.base_mono (Nat.zero_le _));have HK9:=lh (hk9.base_mono (Nat.zero_le _));have HC9:=lh hc9;have HK3:=lh (HK2.out.trans hk3);clear hl9 hk9 hc9 hk3 y0 y1 y2 y3 hbs s0 s1 hss HR2;have s0:=HR3.out.cell 0 _ rfl;have s1:=HR3.out.cell 1 _ rfl;have hss:=HR3.out.lt;have q0:=HR3.out.soft 0;have q1:=HR3.out.soft 1;have HT4:=lh (set2_turn w3 s 0 1 (.slice (some ⟨g2,0,none⟩) 1 d2) (.slice (some ⟨g1,0,none⟩) 1 d1));have HR4:=lh ((HR3.out.set 0 (.slice (some ⟨g2,0,none⟩) 1 d2)).set 1 (.slice (some ⟨g1,0,none⟩) 1 d1));go_simp;go_wp2;generalize (w3.setCell ⟨s,0,none⟩ (.slice (some ⟨g2,0,none⟩) 1 d2)).setCell ⟨s,1,none⟩ (.slice (some ⟨g1,0,none⟩) 1 d1)=w4 at HT4 HR4 ⊢;rw [Zone.calm_normal];go_end0;refine ⟨rfl,.one s _ _ _ m9 HR4.out (Own.turn HK9.out HT4.out fun i hi=>?_) (Own.turn HL9.out HT4.out fun i hi=>?_) (HC9.out.off (offN_row HR3.out (by decide) (by decide) (by decide)) HT4.out),(Turn.keep HK3.out [s]).trans HT4.out⟩
 ·simp only [List.mem_singleton] at hi;subst hi;exact own_row_ne HK9.out HR3.out (by decide)
 ·simp only [List.mem_singleton] at hi;subst hi;exact own_row_ne HL9.out HR3.out (by decide)
end Go.Proofs.YtpkocnpamcchcaaGreatDoor
namespace Go.Proofs.YtpkocnpamcchcaaGreatDoor
open Go.RowKit Go.Zone Go.Shelf
attribute [local go_sem] zone stepZ fill lookFs goes goesUpon dropFs cell_gro frozen_gro size_gro lt_add drew_gro tape_gro keep_refl
attribute [local go_sem] lt_add2 lt_add3 lt_add4 lt_add5 lt_add6 lt_add7 lt_add8 lt_add9 lt_add10 lt_add11 lt_add12
theorem inc_lt{l:List Nat}(h:Inc l):∀ (d i:Nat),(hi:i+d+1<l.length)→l[i]'(by omega)<l[i+d+1]
 | 0,i,hi=>h i hi
 | d+1,i,hi=>Nat.lt_trans (inc_lt h d i (by omega)) (h (i+d+1) (by omega))
theorem inc_up{l:List Nat}(h:Inc l):Up l:=fun i j hij hj=>by
 rcases Nat.eq_or_lt_of_le hij with e|e
 ·subst e;exact Nat.le_refl _
 ·obtain ⟨d,rfl⟩:∃ d,j=i+d+1:=⟨j-i-1,by omega⟩;exact Nat.le_of_lt (inc_lt h d i hj)
theorem setof_any(A:Option Addr)(c:Nat)(l:List Nat)(w:World)(h:Sl w 1 u32V A c l)(hi:Inc l)(hb:∀ x∈l,x<64)(hl:l.length≤2000)(htab:Tab w) :
 Calls Tryz.prog 127 #[.slice A l.length c] w fun e w'=>∃ p,e=.returned p∧SetAt w' (Roa.ofR TB l) p∧Keep w w':=by
 have HCL:=lh (cloneu32_any A c l w h (by omega));have HSO:=lh (fun W B d (hW:Sl W 1 u32V B d l)=>sortu_all B d l W (inc_up hi) hW (by omega));have HLL:=lh (show l.length≤1000000 by omega);have HINC:=lh hi;have HB:=lh hb;have HT:=lh htab;generalize hn:l.length=n at hl HCL HSO;have HN:=lh hn;clear h hi hb htab hn;go_enter Tryz.func127,Tryz.ntmps127;go_wp2_with (go_at_call 166;refine hold ?_);refine unhold ?_;refine HCL.out.mono ?_;rintro e w0 ⟨A1,c1,rfl,ho0,hk0⟩;obtain ⟨A8,c8,hv8,hsl⟩:=own_sl1 ho0 u32_len HLL.out;injection hv8 with hv8 hnn hc8;subst hv8;subst hc8;clear hnn;have HSL:=lh hsl;have HK0:=lh hk0;clear ho0 hk0 hsl HCL;go_wp2_with (go_at_call 167;refine hold ?_);refine unhold ?_;refine (HSO.out _ _ _ HSL.out).mono ?_;rintro e w1 ⟨rfl,hk1⟩;have HK1:=lh (HK0.out.trans hk1);have HSL1:=lh (HSL.out.keep hk1);clear hk1 HSL HSO HK0;go_wp2_with (go_at_call 130;refine hold ?_);refine unhold ?_;refine (rnew_any _).mono ?_;rintro e w2 ⟨s,rfl,hrs,hsb,hk2⟩;have HRS:=lh hrs;have HSB:=lh (Nat.le_trans HK1.out.size hsb);have HK2:=lh (HK1.out.trans hk2);have HSL2:=lh (HSL1.out.keep hk2);obtain ⟨lo,hlo⟩:∃ lo,w2.heap.size=lo:=⟨_,rfl⟩;have HLO:=lh hlo;clear hrs hsb hk2 HSL1 HK1 hlo;go_wp2;go_loopw [4,14] (fun va vi wr=>∃ (k:Nat) (v:Value),k≤n∧vi=.int .i64 k∧v=va∧Hid (OwnU16 wr lo v (l.take k))∧Hid (Keep w2 wr)) (fun _ vi _=>n-(intOf vi).toNat)
 case atStart=>exact ⟨0,.slice none 0 0,Nat.zero_le _,rfl,rfl,Own.nil_ _ _ _ _ _,Keep.refl _⟩
 case round =>
  obtain ⟨k,v,hk,rfl,rfl,HO,HK⟩:=hrel;obtain ⟨Av,cv,hv⟩:=own_form HO.out;have HTL:=lh (show (l.take k).length=k by rw [List.length_take,HN.out];omega)
  by_cases hlt:k<n
  ·have hkn:k<l.length:=by rw [HN.out];exact hlt
   obtain ⟨b,off,hA,hb,h0⟩:=sl_u32 (HSL2.out.keep HK.out) k hkn;subst hA;have hxb:=HB.out l[k] (List.getElem_mem _);have HS2:=lh (show l.take (k+1)=l.take k++[l[k]] from List.take_succ_eq_append_getElem hkn);rw [HTL.out] at hv
   by_cases h00:k=0
   ·generalize l[k]=x at h0 hxb HS2;have e1:decide ((0:Int)<(k:Int))=false:=by simp;omega
    have e2:¬ (0:Int)<(k:Int):=by omega
    have e3:IntKind.u16.wrap (x:Int)=(x:Int):=by simp [IntKind.wrap,IntKind.signed,IntKind.bits];omega
    subst hv;clear h00;go_wp2_with (at_builtin;refine hold ?_);refine unhold ?_;have HO3:OwnU16 (wr.alloc (.cells #[.int .u16 (x:Int)] 126)) lo (.slice Av k cv) (l.take k):=HO.out.keep (Keep.alloc (Keep.refl _) _);refine wpList_app elt_u16 u16_len u16_one rfl (.tmp 54) (.tmp 57) rfl (ys:=[x]) HO3 rfl rfl (sl_one _ (by omega) (by omega) (fun j u hu=>by match j,hu with|0,hu=>cases hu;simp [go_sem])) (by have:=HTL.out;simp;omega) (by have:=HK.out.size;have:=HLO.out;simp;omega) ?_;intro v1 w9 hown9 hg9 _;have HK9:=lh (show Keep w2 w9 from HO3.kept hg9 (HK.out.alloc _) (Nat.le_of_eq HLO.out));have HO9:=lh hown9;clear hown9 hg9 HO3 HO HK;go_wp2;go_roundw
    case rel=>exact ⟨k+1,v1,by omega,by go_num,rfl,(by show OwnU16 _ _ _ _;rw [HS2.out];exact HO9.out),HK9.out⟩
    case measure=>simp [intOf];omega
   ·obtain ⟨q,hq⟩:∃ q,q+1=k:=⟨k-1,by omega⟩;have hq2:q<n:=by omega
    have hq3:q<l.length:=by omega
    obtain ⟨_,h1⟩:=sl_u32' (HSL2.out.keep HK.out) q hq3;have hyb:=HB.out l[q] (List.getElem_mem _);have hlt2:l[q]<l[k]:=by
     have:=HINC.out q (by omega);simp only [hq] at this;exact this
    generalize l[q]=y at h1 hyb hlt2;generalize l[k]=x at h0 hxb HS2 hlt2;have e1:IntKind.i64.wrap ((k:Int)-1)=(q:Int):=by rw [IntWalk.i64_in _ ⟨by omega,by omega⟩];omega
    have e2:(0:Int)<(k:Int):=by omega
    have e3:IntKind.u16.wrap (x:Int)=(x:Int):=by simp [IntKind.wrap,IntKind.signed,IntKind.bits];omega
    have e4:((y:Int)==(x:Int))=false:=by simp;omega
    have e5:¬ (y:Int)=(x:Int):=by omega
    have e6:(y:Int)/65536=0:=by omega
    have e7:(x:Int)/65536=0:=by omega
    subst hv;clear h00 hq hlt2;go_wp2_with (at_builtin;refine hold ?_);refine unhold ?_;have HO3:OwnU16 (wr.alloc (.cells #[.int .u16 (x:Int)] 126)) lo (.slice Av k cv) (l.take k):=HO.out.keep (Keep.alloc (Keep.refl _) _);refine wpList_app elt_u16 u16_len u16_one rfl (.tmp 54) (.tmp 57) rfl (ys:=[x]) HO3 rfl rfl (sl_one _ (by omega) (by omega) (fun j u hu=>by match j,hu with|0,hu=>cases hu;simp [go_sem])) (by have:=HTL.out;simp;omega) (by have:=HK.out.size;have:=HLO.out;simp;omega) ?_;intro v1 w9 hown9 hg9 _;have HK9:=lh (show Keep w2 w9 from HO3.kept hg9 (HK.out.alloc _) (Nat.le_of_eq HLO.out));have HO9:=lh hown9;clear hown9 hg9 HO3 HO HK;go_wp2;go_roundw
    case rel=>exact ⟨k+1,v1,by omega,by go_num,rfl,(by show OwnU16 _ _ _ _;rw [HS2.out];exact HO9.out),HK9.out⟩
    case measure=>simp [intOf];omega
  ·have hkn:k=n:=by omega
   subst hkn;have hLT:l.take k=l:=by rw [← HN.out,List.take_length]
   rw [hLT] at HO HTL hv;rw [HN.out] at hv
   by_cases h00:k=0
   ·have HNIL:=lh (show Roa.ofR TB l=none by unfold Roa.ofR;rw [if_pos (List.eq_nil_of_length_eq_zero (by rw [HN.out];exact h00))]);have e1:decide ((0:Int)<(k:Int))=false:=by simp;omega
    have e2:¬ (0:Int)<(k:Int):=by omega
    subst hv;clear h00;go_wp2;exact bodyPost_ret (v:=.pointer (some ⟨s,0,none⟩)) (by simp [results,Tryz.results127,go_sem]) rfl ⟨_,rfl,by rw [HNIL.out];exact .nil_ s (HRS.out.keep HK.out),HK2.out.trans HK.out⟩
   ·have HSOM:=lh (show Roa.ofR TB l=some ((Roa.Con.arr l).canon TB) by unfold Roa.ofR;rw [if_neg (fun e=>h00 (by have:=HN.out;rw [e] at this;simpa using this.symm))]);obtain ⟨A9,c9,hv9,hsl9⟩:=own_sl1 HO.out u16_len HLL.out;rw [hv] at hv9;injection hv9 with hv9 hnn hc9;subst hv9;subst hc9;clear hnn;have HP:=lh (fun W (hW:Keep wr W)=>push_any s Av cv l W ((HRS.out.keep HK.out).keep hW) (hsl9.keep hW) HINC.out HB.out (by rw [HN.out];exact hl) (HT.out.keep ((HK2.out.trans HK.out).trans hW)));rw [HN.out] at HP;obtain ⟨q,hq⟩:∃ q,q+1=k:=⟨k-1,by omega⟩;have hq2:q<k:=by omega
    have hq3:q<l.length:=by rw [HN.out];exact hq2
    obtain ⟨b,off,hA,hb,h0⟩:=sl_u32 (HSL2.out.keep HK.out) q hq3;subst hA;have hyb:=HB.out l[q] (List.getElem_mem _);generalize l[q]=y at h0 hyb;have e1:IntKind.i64.wrap ((k:Int)-1)=(q:Int):=by rw [IntWalk.i64_in _ ⟨by omega,by omega⟩];omega
    have e2:(0:Int)<(k:Int):=by omega
    have e6:(y:Int)/65536=0:=by omega
    subst hv;clear h00 hq hsl9 hLT;go_wp2_with (go_at_call 168;refine hold ?_);refine unhold ?_;refine (HP.out _ (Keep.refl _)).mono ?_;rintro e w5 ⟨rfl,hset,hT5⟩;have HSET:=lh hset;have HK5:=lh (Turn.after (HK2.out.trans HK.out) hT5 (fun i hi=>by simp only [List.mem_singleton] at hi;rw [hi];exact HSB.out));clear hset hT5 HP;go_wp2;exact bodyPost_ret (v:=.pointer (some ⟨s,0,none⟩)) (by simp [results,Tryz.results127,go_sem]) rfl ⟨_,rfl,by rw [HSOM.out];exact HSET.out,HK5.out⟩
end Go.Proofs.YtpkocnpamcchcaaGreatDoor
