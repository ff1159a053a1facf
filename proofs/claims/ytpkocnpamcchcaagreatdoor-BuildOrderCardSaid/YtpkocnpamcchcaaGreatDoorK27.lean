/- Parts of the proof. -/
import Derived.Deep.MidRow
import Derived.Test.YtpkocnpamcchcaaGreatDoorK26
set_option maxRecDepth 100000
set_option maxHeartbeats 4000000
set_option linter.unusedSimpArgs false
set_option linter.unusedVariables false
set_option linter.unnecessarySimpa false
namespace Go.Proofs.YtpkocnpamcchcaaGreatDoor
open Go.RowKit Go.Zone Go.Shelf
attribute [local go_sem] zone stepZ fill lookFs goes goesUpon dropFs cell_gro frozen_gro size_gro lt_add drew_gro tape_gro keep_refl
attribute [local go_sem] lt_add2 lt_add3 lt_add4 lt_add5 lt_add6 lt_add7 lt_add8 lt_add9 lt_add10 lt_add11 lt_add12
def SFit(s:Option Roa.Con):Prop:=∀ c,s=some c→Fit c∧c.NotW
theorem SFit.of{s:Option Roa.Con}{B:Nat}(h:Roa.SetOk s B)(hB:B≤2000):SFit s:=fun c e=>⟨⟨h.good c e,Nat.le_trans (h.w c e) hB⟩,h.notW c e⟩
theorem setw_any{w:World}{s:Option Roa.Con}{p:Value}(h:SetAt w s p)(hf:SFit s)(htab:Tab w):Calls Tryz.prog 129 #[p] w fun e w'=>∃ u,e=.returned u∧OwnB w' w.heap.size u (setB s)∧Keep w w':=by
 cases h with
 | nil_ b h=>exact write_nil (.nil_ b h)
 | one b kv lv c m h hk hl hc =>
   obtain ⟨h1,h2⟩:=hf c rfl
   by_cases h3:c.kind=3
   ·exact write_run h hk hl hc h1 h2 h3 htab
   ·exact write_arr h hk hl hc h1 h2 h3 htab
theorem setB_len{s:Option Roa.Con}{B:Nat}(h:Roa.SetOk s B):(setB s).length≤16+2*B:=by
 cases s with
 | none=>simp only [setB,List.length_append,le_len];omega
 | some c =>
   have hw:=h.w c rfl;have hn:=h.notW c rfl
   cases c with
   | wrd x=>exact hn.elim
   | arr a =>
     simp only [Roa.Con.W] at hw;have e:setB (some (.arr a))=le 12346 4++le 1 4++le 0 2++le (((Roa.Con.arr a).len TB+65535)%65536) 2++le 16 4++bodyC (.arr a):=rfl;rw [e];simp only [List.length_append,le_len,bodyC,flat2_len];omega
   | run r =>
     simp only [Roa.Con.W] at hw;have e:setB (some (.run r))=le 12347 2++le 0 2++[1]++le 0 2++le (((Roa.Con.run r).len TB+65535)%65536) 2++bodyC (.run r):=rfl;rw [e];simp only [List.length_append,le_len,bodyC,flatr_len,List.length_cons,List.length_nil];omega
def rowsTo(ids:List Nat)(k i:Nat):List Nat:=(List.range k).filter fun r=>decide (ids.getD r 0=i)
theorem rowsTo_lt{ids:List Nat}{k i:Nat}:∀ x∈rowsTo ids k i,x<k:=fun _ hx=>List.mem_range.1 (List.mem_filter.1 hx).1
theorem rowsTo_succ(ids:List Nat)(k i:Nat):rowsTo ids (k+1) i=if ids.getD k 0=i then rowsTo ids k i++[k] else rowsTo ids k i:=by
 unfold rowsTo;rw [List.range_succ,List.filter_append]
 by_cases h:ids.getD k 0=i
 ·rw [if_pos h];simp only [List.filter_cons,List.filter_nil];rw [if_pos (by simpa using h)]
 ·rw [if_neg h];simp only [List.filter_cons,List.filter_nil];rw [if_neg (by simpa using h),List.append_nil]
theorem rowsTo_inc(ids:List Nat)(k i:Nat):Inc (rowsTo ids k i):=by
 have:(rowsTo ids k i).Pairwise (· < ·):=List.Pairwise.filter _ List.pairwise_lt_range;intro j hj;exact List.pairwise_iff_getElem.1 this j (j+1) (by omega) hj (by omega)
theorem rowsTo_len(ids:List Nat)(k i:Nat):(rowsTo ids k i).length≤k:=by
 have:=List.length_filter_le (fun r=>decide (ids.getD r 0=i)) (List.range k)
 simpa [rowsTo] using this
theorem rowsTo_sum(ids:List Nat)(m:Nat):∀ k,((List.range m).map fun i=>(rowsTo ids k i).length).sum≤k
 | 0=>by
   have:∀ l:List Nat,(l.map fun i=>(rowsTo ids 0 i).length).sum=0:=by
    intro l
    induction l with
    | nil=>rfl
    | cons a l ih=>simp only [List.map_cons,List.sum_cons,ih];rfl
   rw [this];exact Nat.le_refl _
 | k+1=>by
   have ih:=rowsTo_sum ids m k;have key:∀ l:List Nat,l.Nodup→(l.map fun i=>(rowsTo ids (k+1) i).length).sum≤(l.map fun i=>(rowsTo ids k i).length).sum+1∧(ids.getD k 0∉l→(l.map fun i=>(rowsTo ids (k+1) i).length).sum=(l.map fun i=>(rowsTo ids k i).length).sum):=by
    intro l
    induction l with
    | nil=>intro _;exact ⟨Nat.zero_le _,fun _=>rfl⟩
    | cons a l ih =>
      intro hn;rw [List.nodup_cons] at hn;obtain ⟨h1,h2⟩:=ih hn.2;simp only [List.map_cons,List.sum_cons]
      by_cases h:ids.getD k 0=a
      ·have h3:=h2 (by rw [h];exact hn.1);rw [rowsTo_succ,if_pos h];refine ⟨by simp only [List.length_append,List.length_cons,List.length_nil];omega,fun hm=>absurd (by rw [h];exact List.mem_cons_self ..) hm⟩
      ·rw [rowsTo_succ,if_neg h];exact ⟨by omega,fun hm=>by rw [h2 (fun e=>hm (List.mem_cons_of_mem _ e))]⟩
   have:=(key (List.range m) List.nodup_range).1;omega
theorem row_made1{P:Program}{t e:TypeId}{i:TypeInfo}{z:Value}(ht:P.underlying t=some (.slice e))(hi:P.info? e=some i)(h1:i.zero=some z)(h2:i.size=1)(hone:z.cells=#[z])(n:Nat)(W:World)(hn:i.bytes*n≤140737488355328)(hm:n≤1000000000) :
 ∃ W',(Instr.makeSlice t (.int .i64 (n:Int)) (.int .i64 (n:Int))).run P W=.ok (.slice (some ⟨W.heap.size,0,none⟩) n n) W'∧Row W' W.heap.size e (List.replicate n z)∧Keep W W':=by
 have hr:=run_make (P:=P) W t e i _ ht hi h1 .i64 .i64 (n:Int) (n:Int) (by omega) (by omega) (by have h:=Int.ofNat_le.2 (Nat.le_trans hn (by decide:140737488355328≤281474976710656));simpa using h) (by omega);rw [Int.toNat_natCast,h2] at hr;refine ⟨_,hr,?_,Keep.alloc (Keep.refl _) _⟩;have e:madeCells z.cells (n*1)=(List.replicate n z).toArray:=by
  apply Array.ext
  ·simp [madeCells]
  ·intro i h1 h2;simp [madeCells,hone,Nat.mod_one]
 rw [e];exact row_alloc _ _ _
theorem Turn.of_grown{w w':World}{row:Option Nat}(hg:w.grownBy w' row):Turn w w' row.toList :=
 ⟨hg.os,hg.tape,hg.output,hg.size,fun i hi hn=>hg.block i hi fun e=>hn (by rw [← e];simp)⟩
structure BagV(w:World)(lo g:Nat)(f:Nat→List Nat)(vs:List Value):Prop where
 row:Row w g 193 vs
 own:∀ i u,vs[i]? =some u→OwnU32 w lo u (f i)
 apart:∀ (i j:Nat) (u v:Value) (b:Nat),i≠j→vs[i]? =some u→vs[j]? =some v→u.ownBlock=some b→v.ownBlock≠some b
theorem BagV.keep{w w':World}{lo g:Nat}{f:Nat→List Nat}{vs:List Value}(h:BagV w lo g f vs)(hk:Keep w w'):BagV w' lo g f vs :=
 ⟨h.row.keep hk,fun i u hu=>(h.own i u hu).keep hk,h.apart⟩
theorem BagV.congr{w:World}{lo g:Nat}{f f':Nat→List Nat}{vs:List Value}(h:BagV w lo g f vs)(he:∀ i,f i=f' i):BagV w lo g f' vs :=
 ⟨h.row,fun i u hu=>by rw [← he];exact h.own i u hu,h.apart⟩
theorem bag_nil{w:World}{g n lo:Nat}(h:Row w g 193 (List.replicate n (.slice none 0 0))):BagV w lo g (fun _=>[]) (List.replicate n (.slice none 0 0)) :=
 ⟨h,fun i u hu=>by
  have:=List.mem_of_getElem? hu;rw [List.mem_replicate] at this;rw [this.2];exact Own.nil_ _ _ _ _ _,fun i j u v b _ hu _ hb=>by
  have:=List.mem_of_getElem? hu;rw [List.mem_replicate] at this;rw [this.2] at hb
  cases hb⟩
theorem BagV.app{w w':World}{lo g id x:Nat}{f:Nat→List Nat}{vs:List Value}{u v1:Value}(h:BagV w lo g f vs)(hu:vs[id]? =some u)(hown:OwnU32 w' lo v1 (f id++[x]))(hg:w.grownBy w' u.ownBlock)(hb:v1.ownBlock=u.ownBlock∨v1.ownBlock=some w.heap.size) :
 BagV (w'.setCell ⟨g,id,none⟩ v1) lo g (fun i=>if i=id then f id++[x] else f i) (vs.set id v1)∧Row w' g 193 vs:=by
 have hidl:id<vs.length:=(List.getElem?_eq_some_iff.1 hu).1;have hr:Row w' g 193 vs:=row_grown h.row hg (own_row_ne (h.own id u hu) h.row (by decide));have hT:Turn w' (w'.setCell ⟨g,id,none⟩ v1) [g]:=Turn.set w' ⟨g,id,none⟩ v1;have stay:∀ {y:Value} {xs:List Nat},OwnU32 w' lo y xs→OwnU32 (w'.setCell ⟨g,id,none⟩ v1) lo y xs:=fun ho=>(off_row hr (by decide)).own ho hT;have inj:∀ (i:Nat) (y:Value),i≠id→(vs.set id v1)[i]? =some y→vs[i]? =some y:=fun i y hi hy=>by
  rwa [List.getElem?_set_ne (fun e=>hi e.symm)] at hy
 have atid:∀ y,(vs.set id v1)[id]? =some y→y=v1:=fun y hy=>by
  rw [List.getElem?_set_self hidl] at hy;exact (Option.some.inj hy).symm
 refine ⟨⟨hr.set id v1,fun i y hy=>?_,fun i j y z b hij hy hz hyb hzb=>?_⟩,hr⟩
 ·by_cases hi:i=id
  ·subst hi;rw [atid y hy,if_pos rfl];exact stay hown
  ·rw [if_neg hi];have hy':=inj i y hi hy;exact stay ((h.own i y hy').grown hg fun j hj hyj=>h.apart id i u y j (fun e=>hi e.symm) hu hy' hj hyj)
 ·by_cases hi:i=id
  ·subst hi;have hz':=inj j z (fun e=>hij e.symm) hz;rw [atid y hy] at hyb
   rcases hb with hb|hb
   ·exact h.apart i j u z b hij hu hz' (hb.symm.trans hyb) hzb
   ·have:=((h.own j z hz').lt b hzb).2;rw [hb] at hyb;simp only [Option.some.injEq] at hyb;omega
  ·have hy':=inj i y hi hy
   by_cases hj:j=id
   ·subst hj;rw [atid z hz] at hzb
    rcases hb with hb|hb
    ·exact h.apart i j y u b hij hy' hu hyb (hb.symm.trans hzb)
    ·have:=((h.own i y hy').lt b hyb).2;rw [hb] at hzb;simp only [Option.some.injEq] at hzb;omega
   ·exact h.apart i j y z b hij hy' (inj j z hj hz) hyb hzb
theorem elt_set:Elt Tryz.prog 194 197 1 8:=by
 obtain ⟨i,hi,h1,h2,h3⟩:=info_partsV (show (Tryz.prog.info? 197).map (fun i=>(i.zero,i.size,i.bytes))=some (some (.pointer none),1,8) by kernel_rfl);exact ⟨i,_,Tryz.underlying194,hi,h1,h2,h3,rfl,by decide,by decide⟩
def ptV(b:Nat):List Value:=[.pointer (some ⟨b,0,none⟩)]
theorem pt_len(x:Nat):(ptV x).length=1:=rfl
theorem pt_one(x:Nat):∀ u∈ptV x,u.oneCell'=true:=fun u hu=>by simp [ptV] at hu;subst hu;rfl
abbrev OwnPt(w:World)(base:Nat)(v:Value)(ps:List Nat):Prop:=Own w base 197 1 ptV v ps
def Sets(w:World)(S:List (Option Roa.Con))(ps:List Nat):Prop:=ps.length=S.length∧∀ (i:Nat) (s:Option Roa.Con) (a:Nat),S[i]? =some s→ps[i]? =some a→SetAt w s (.pointer (some ⟨a,0,none⟩))
theorem Sets.keep{w w':World}{S:List (Option Roa.Con)}{ps:List Nat}(h:Sets w S ps)(hk:Keep w w'):Sets w' S ps:=⟨h.1,fun i s a hs ha=>(h.2 i s a hs ha).keep hk⟩
theorem Sets.off{w w':World}{S:List (Option Roa.Con)}{ps:List Nat}{B:List Nat}(h:Sets w S ps)(ho:OffS w B)(ht:Turn w w' B):Sets w' S ps:=⟨h.1,fun i s a hs ha=>(h.2 i s a hs ha).off ho ht⟩
theorem Sets.snoc{w:World}{S:List (Option Roa.Con)}{ps:List Nat}{s:Option Roa.Con}{a:Nat}(h:Sets w S ps)(hs:SetAt w s (.pointer (some ⟨a,0,none⟩))):Sets w (S++[s]) (ps++[a]) :=
 ⟨by simp [h.1],fun i t b ht hb=>by
  by_cases hi:i<S.length
  ·rw [List.getElem?_append_left hi] at ht;rw [List.getElem?_append_left (by rw [h.1];exact hi)] at hb;exact h.2 i t b ht hb
  ·rw [List.getElem?_append_right (by omega)] at ht;rw [List.getElem?_append_right (by rw [h.1];omega),h.1] at hb;obtain ⟨e1,_⟩:=List.getElem?_eq_some_iff.1 ht;have e2:i-S.length=0:=by simpa using e1
   rw [e2] at ht hb
   cases ht;cases hb
   exact hs⟩
inductive SetIx (w:World) (T:TypeId) (S:List (Option Roa.Con)):Value→Prop
 | mk (b:Nat) (v:Value) (ps:List Nat) (h:Row w b T [v]) (ho:OwnPt w 0 v ps) (hs:Sets w S ps):SetIx w T S (.pointer (some ⟨b,0,none⟩))
theorem SetIx.keep{w w':World}{T:TypeId}{S:List (Option Roa.Con)}{p:Value}(h:SetIx w T S p)(hk:Keep w w'):SetIx w' T S p:=by
 cases h with
 | mk b v ps h ho hs=>exact .mk b v ps (h.keep hk) (ho.keep hk) (hs.keep hk)
theorem set_ptr{w:World}{s:Option Roa.Con}{p:Value}(h:SetAt w s p):∃ a,p=.pointer (some ⟨a,0,none⟩):=by
 cases h with
 | nil_ b h=>exact ⟨b,rfl⟩
 | one b kv lv c m h hk hl hc=>exact ⟨b,rfl⟩
end Go.Proofs.YtpkocnpamcchcaaGreatDoor
namespace Go.Proofs.YtpkocnpamcchcaaGreatDoor
open Go.RowKit Go.Zone Go.Shelf
attribute [local go_sem] zone stepZ fill lookFs goes goesUpon dropFs cell_gro frozen_gro size_gro lt_add drew_gro tape_gro keep_refl
structure Rc where
 i0:Int
 i1:Int
 i2:Int
 i3:Int
 i4:Int
 i5:Int
 i6:Int
 i7:Int
 n:Int
 A:Option Addr
 l:Nat
 c:Nat
instance:Inhabited Rc:=⟨⟨0,0,0,0,0,0,0,0,0,none,0,0⟩⟩
def Rc.cells(x:Rc):List Value:=[.int .i64 x.i0,.int .i64 x.i1,.int .i64 x.i2,.int .i64 x.i3,.int .i64 x.i4,.int .i64 x.i5,.int .i64 x.i6,.int .i64 x.i7,.int .i64 x.n,.slice x.A x.l x.c]
def Rc.v(x:Rc):Value:=.agg x.cells.toArray
theorem rc_len(x:Rc):x.cells.length=10:=rfl
theorem rc_one(x:Rc):∀ u∈x.cells,u.oneCell'=true:=fun u hu=>by
 simp only [Rc.cells,List.mem_cons,List.not_mem_nil,or_false] at hu
 rcases hu with rfl|rfl|rfl|rfl|rfl|rfl|rfl|rfl|rfl|rfl<;>rfl
abbrev OwnRc(w:World)(base:Nat)(v:Value)(xs:List Rc):Prop:=Own w base 158 10 Rc.cells v xs
theorem rc_size:(Tryz.prog.info? 158).map (·.size)=some 10:=by kernel_rfl
theorem rc_store(x:Rc)(g o:Nat):∀ W:World,W.there g o 10→(Instr.storeAt 158 (.pointer (some ⟨g,o,none⟩)) x.v).run Tryz.prog W=.ok () (W.setCells g o x.cells):=fun W h =>
 run_storeAt_mid W g o 158 x.cells.toArray h rc_size (all_oneCell_toArray (rc_one x))
section
variable {α:Type} {W:World} {base g N c k:Nat} {e:TypeId} {enc:α→List Value} {L:List α}
theorem own_at(h:Own W base e k enc (.slice (some ⟨g,0,none⟩) N c) L)(hk:∀ x,(enc x).length=k)(hl:L.length=N)(j:Nat)(hj:j<L.length):W.rangeAt g (j*k) (enc L[j])∧W.there g (j*k) k∧g<W.heap.size∧base≤g:=by
 subst hl
 rcases h.2 with ⟨h',_⟩ | ⟨g',cap',cur,h',hb,hg,hnc,hcm,hcs,htake⟩
 ·simp at h'
 ·simp only [Value.slice.injEq,Option.some.injEq,Addr.mk.injEq,and_true,true_and] at h';obtain ⟨rfl,_⟩:=h';have hle:∀ i,i<k→j*k+i<cur.size:=fun i hi=>by
   have h1:(j+1)*k≤L.length*k:=Nat.mul_le_mul_right k hj;have h2:L.length*k≤cap'*k:=Nat.mul_le_mul_right k hnc;rw [Nat.add_mul,Nat.one_mul] at h1;omega
  refine ⟨fun i u hu=>?_,fun i hi=>⟨?_,by simp [World.frozen?,hg]⟩,(Array.getElem?_eq_some_iff.1 hg).1,hb⟩
  ·have h1:=flat_get hk L j i hj u hu;rw [← htake,List.getElem?_take] at h1
   split at h1
   ·simp only [World.cell?,hg]
    simpa using h1
   ·cases h1
  ·simp only [World.cell?,hg];have:=hle i hi;simp [this]
def setL(xs:List Value):Nat→List Value→List Value
 | _,[]=>xs
 | o,v :: r=>setL (xs.set o v) (o+1) r
theorem setL_eq:∀ (vs:List Value) (xs:List Value) (o:Nat),o+vs.length≤xs.length→setL xs o vs=xs.take o++vs++xs.drop (o+vs.length)
 | [],xs,o,_=>by simp [setL]
 | v :: r,xs,o,h=>by
   simp only [List.length_cons] at h;unfold setL;rw [setL_eq r (xs.set o v) (o+1) (by rw [List.length_set];omega)];have ho:o<xs.length:=by omega
   rw [List.drop_set_of_lt (by omega),show o+1+r.length=o+(v :: r).length by simp;omega];rw [List.take_succ_eq_append_getElem (by rw [List.length_set];exact ho),List.getElem_set_self,List.take_set_of_le (Nat.le_refl _)];simp
theorem owns_setCells{n cap size:Nat}{xs:List Value}:∀ (vs:List Value) (o:Nat) (W:World) (xs:List Value),W.ownsRow base e size (.slice (some ⟨g,0,none⟩) n cap) n xs→(W.setCells g o vs).ownsRow base e size (.slice (some ⟨g,0,none⟩) n cap) n (setL xs o vs)
 | [],_,_,_,h=>h
 | v :: r,o,W,xs,h=>by
   unfold World.setCells setL;exact owns_setCells (xs:=xs) r (o+1) _ _ (World.ownsRow.stored h o v).1
theorem flat_set(hk:∀ x,(enc x).length=k)(j:Nat)(hj:j<L.length)(y:α):setL (L.flatMap enc) (j*k) (enc y)=(L.set j y).flatMap enc:=by
 have hf:=flat_len hk L;have h1:(j+1)*k≤L.length*k:=Nat.mul_le_mul_right k hj;rw [Nat.add_mul,Nat.one_mul] at h1;rw [setL_eq _ _ _ (by rw [hf,hk];exact h1),hk];have hsplit:L=L.take j++L[j] :: L.drop (j+1):=by
  rw [List.getElem_cons_drop hj,List.take_append_drop]
 have hL:L.flatMap enc=(L.take j).flatMap enc++(enc L[j]++(L.drop (j+1)).flatMap enc):=by
  conv=>lhs;rw [hsplit]
  rw [List.flatMap_append,List.flatMap_cons]
 have hS:(L.set j y).flatMap enc=(L.take j).flatMap enc++(enc y++(L.drop (j+1)).flatMap enc):=by
  rw [List.set_eq_take_append_cons_drop,if_pos hj,List.flatMap_append,List.flatMap_cons]
 have ht:((L.take j).flatMap enc).length=j*k:=by rw [flat_len hk,List.length_take];congr 1;omega
 rw [hS,hL,List.take_append_of_le_length (by rw [ht];exact Nat.le_refl _),List.take_of_length_le (by rw [ht];exact Nat.le_refl _),List.append_assoc]
 congr 2
 rw [List.drop_append,ht,List.drop_of_length_le (by rw [ht];omega),List.nil_append,show j*k+k-j*k=k by omega,List.drop_append,hk,List.drop_of_length_le (by rw [hk];exact Nat.le_refl _),Nat.sub_self];rfl
theorem own_setk(h:Own W base e k enc (.slice (some ⟨g,0,none⟩) N c) L)(hk:∀ x,(enc x).length=k)(hl:L.length=N)(j:Nat)(hj:j<L.length)(y:α):Own (W.setCells g (j*k) (enc y)) base e k enc (.slice (some ⟨g,0,none⟩) N c) (L.set j y):=by
 subst hl;unfold Own at h ⊢;rw [List.length_set,← flat_set hk j hj y];exact owns_setCells (xs:=[]) _ _ _ _ h
end
theorem Turn.setCells(g:Nat):∀ (vs:List Value) (o:Nat) (w:World),Turn w (w.setCells g o vs) [g]
 | [],_,w=>Turn.refl w _
 | v :: r,o,w=>(Turn.set w ⟨g,o,none⟩ v).trans (Turn.setCells g r (o+1) _)
theorem size_setCells(g:Nat):∀ (vs:List Value) (o:Nat) (w:World),(w.setCells g o vs).heap.size=w.heap.size
 | [],_,_=>rfl
 | v :: r,o,w=>by
   unfold World.setCells;rw [size_setCells g r (o+1)];simp
theorem rangeAt_keep{w w':World}{g o:Nat}{cs:List Value}(h:w.rangeAt g o cs)(hk:Keep w w'):w'.rangeAt g o cs:=fun j v hv=>by
 have:=h j v hv;exact (hk.cell (block_lt_of_cell this)).trans this
theorem there_keep{w w':World}{g o n:Nat}(h:w.there g o n)(hb:g<w.heap.size)(hk:Keep w w'):w'.there g o n:=fun j hj=>by
 have h1:=h j hj;refine ⟨by rw [hk.cell hb];exact h1.1,?_⟩;have:=hk.block g hb;have h2:=h1.2;simp only [World.frozen?] at h2 ⊢;rw [this];exact h2
def rd10(w:World)(g o:Nat):Option Value :=
 match w.cell? ⟨g,o+0,none⟩,w.cell? ⟨g,o+1,none⟩,w.cell? ⟨g,o+2,none⟩,w.cell? ⟨g,o+3,none⟩,w.cell? ⟨g,o+4,none⟩,w.cell? ⟨g,o+5,none⟩,w.cell? ⟨g,o+6,none⟩,w.cell? ⟨g,o+7,none⟩,w.cell? ⟨g,o+8,none⟩,w.cell? ⟨g,o+9,none⟩ with
 | some a,some b,some c,some d,some e,some f,some x,some y,some z,some u=>some (.agg #[a,b,c,d,e,f,x,y,z,u])
 | _,_,_,_,_,_,_,_,_,_=>none
theorem rd10_some{w:World}{g o:Nat}{v:Value}(h:rd10 w g o=some v):∃ cs:List Value,cs.length=10∧w.rangeAt g o cs∧v=.agg cs.toArray:=by
 unfold rd10 at h
 split at h
 ·rename_i a b c d e f x y z u h0 h1 h2 h3 h4 h5 h6 h7 h8 h9
  cases h
  refine ⟨[a,b,c,d,e,f,x,y,z,u],rfl,fun j v hv=>?_,rfl⟩
  match j,hv with
  | 0,hv=>cases hv;exact h0
  | 1,hv=>cases hv;exact h1
  | 2,hv=>cases hv;exact h2
  | 3,hv=>cases hv;exact h3
  | 4,hv=>cases hv;exact h4
  | 5,hv=>cases hv;exact h5
  | 6,hv=>cases hv;exact h6
  | 7,hv=>cases hv;exact h7
  | 8,hv=>cases hv;exact h8
  | 9,hv=>cases hv;exact h9
  | n+10,hv=>simp at hv
 ·cases h
theorem rd10_of{w:World}{g o:Nat}{x:Rc}(h:w.rangeAt g o x.cells):rd10 w g o=some x.v:=by
 have h0:=h 0 _ rfl;have h1:=h 1 _ rfl;have h2:=h 2 _ rfl;have h3:=h 3 _ rfl;have h4:=h 4 _ rfl;have h5:=h 5 _ rfl;have h6:=h 6 _ rfl;have h7:=h 7 _ rfl;have h8:=h 8 _ rfl;have h9:=h 9 _ rfl;unfold rd10;rw [h0,h1,h2,h3,h4,h5,h6,h7,h8,h9];rfl
noncomputable def slowL(w:World)(g o:Nat):Result Value:=(Instr.loadAt 158 (.pointer (some ⟨g,o,none⟩))).run Tryz.prog w
noncomputable def fastL(v:Value):Sem Value:=Instr.loadAt 158 v
theorem to_fastL(v:Value):Instr.loadAt 158 v=fastL v:=rfl
theorem fast_load(w:World)(g o:Nat):(fastL (.pointer (some ⟨g,o,none⟩))).run Tryz.prog w=match rd10 w g o with
 | some v=>.ok v w
 | none=>slowL w g o:=by
 unfold fastL
 cases h:rd10 w g o with
 | none=>rfl
 | some v =>
   obtain ⟨cs,hl,hr,rfl⟩:=rd10_some h;exact run_loadAt_mid w g o 158 cs _ hr Tryz.underlying158 rfl (by rw [hl];exact rc_size)
def thB(w:World)(g o:Nat):Prop:=w.there g o 10
noncomputable def fastS(p v:Value):Sem Unit:=Instr.storeAt 158 p v
theorem to_fastS(p v:Value):Instr.storeAt 158 p v=fastS p v:=rfl
theorem fast_store(x:Rc)(w:World)(g o:Nat)(h:thB w g o):(fastS (.pointer (some ⟨g,o,none⟩)) x.v).run Tryz.prog w=.ok () (w.setCells g o x.cells):=rc_store x g o w h
theorem rd10_drew(w:World)(g o:Nat):rd10 w.drew g o=rd10 w g o:=rfl
theorem rd10_keep{w w':World}{g o:Nat}{v:Value}(h:rd10 w g o=some v)(hk:Keep w w'):rd10 w' g o=some v:=by
 obtain ⟨cs,hl,hr,rfl⟩:=rd10_some h;have hr':=rangeAt_keep hr hk
 match cs,hl with
 | [a,b,c,d,e,f,x,y,z,u],_ =>
   have h0:=hr' 0 _ rfl;have h1:=hr' 1 _ rfl;have h2:=hr' 2 _ rfl;have h3:=hr' 3 _ rfl;have h4:=hr' 4 _ rfl;have h5:=hr' 5 _ rfl;have h6:=hr' 6 _ rfl;have h7:=hr' 7 _ rfl;have h8:=hr' 8 _ rfl;have h9:=hr' 9 _ rfl;unfold rd10;rw [h0,h1,h2,h3,h4,h5,h6,h7,h8,h9]
theorem rd10_drewN{w:World}{g o k:Nat}{v:Value}(h:rd10 w g o=some v):rd10 (w.drewN k) g o=some v:=rd10_keep h (by repeat first|exact kp0|apply kp1|apply kp2|apply kp3|apply kp4)
theorem rd10_gro{w:World}{p:GB}{g o:Nat}{v:Value}(h:rd10 w g o=some v):rd10 (w.gro p) g o=some v:=rd10_keep h (by repeat first|exact kp0|apply kp1|apply kp2|apply kp3|apply kp4)
theorem thB_drew(w:World)(g o:Nat):thB w.drew g o↔thB w g o:=by unfold thB;simp
theorem thB_set{w:World}{g o b q:Nat}{vs:List Value}(h:thB w g o):thB (w.setCells b q vs) g o:=World.there_setCells h b q vs
theorem thB_keep{w w':World}{g o:Nat}(h:thB w g o)(hb:g<w.heap.size)(hk:Keep w w'):thB w' g o:=there_keep h hb hk
theorem thB_drewN{w:World}{g o k:Nat}(h:thB w g o)(hb:g<w.heap.size):thB (w.drewN k) g o:=thB_keep h hb (by repeat first|exact kp0|apply kp1|apply kp2|apply kp3|apply kp4)
theorem thB_gro{w:World}{p:GB}{g o:Nat}(h:thB w g o)(hb:g<w.heap.size):thB (w.gro p) g o:=thB_keep h hb (by repeat first|exact kp0|apply kp1|apply kp2|apply kp3|apply kp4)
attribute [local go_sem] lt_add2 lt_add3 lt_add4 lt_add5 lt_add6 lt_add7 lt_add8 lt_add9 lt_add10 lt_add11 lt_add12
attribute [local go_sem ↓] to_fastL to_fastS
attribute [local go_sem] fast_load fast_store rd10_drew rd10_drewN rd10_gro thB_drew thB_set thB_drewN thB_gro size_setCells
theorem Turn.setR2(w:World)(g i j:Nat)(x y:Rc):Turn w ((w.setCells g (i*10) x.cells).setCells g (j*10) y.cells) [g]:=(Turn.setCells g x.cells (i*10) w).trans (Turn.setCells g y.cells (j*10) _)
theorem setCells_drew(g:Nat):∀ (vs:List Value) (o:Nat) (w:World),w.drew.setCells g o vs=(w.setCells g o vs).drew
 | [],_,_=>rfl
 | v :: r,o,w=>by
   unfold World.setCells;rw [← setCells_drew g r (o+1)];rfl
theorem keep_set2d(wr:World)(g i j:Nat)(x y:Rc):Keep ((wr.setCells g (i*10) x.cells).setCells g (j*10) y.cells) ((wr.drew.setCells g (i*10) x.cells).setCells g (j*10) y.cells):=by
 rw [setCells_drew,setCells_drew];generalize (wr.setCells g (i*10) x.cells).setCells g (j*10) y.cells=W;exact (by repeat first|exact kp0|apply kp1|apply kp2|apply kp3|apply kp4)
theorem vownr_at{W:World}{base g N c:Nat}{L:List Rc}(h:OwnRc W base (.slice (some ⟨g,0,none⟩) N c) L)(hl:L.length=N)(j:Nat)(hj:j<L.length) :
 rd10 W g (j*10)=some L[j].v∧thB W g (j*10)∧g<W.heap.size:=by
 obtain ⟨a0,a1,a2,_⟩:=own_at h rc_len hl j hj;exact ⟨rd10_of a0,a1,a2⟩
theorem vownr_swp{W:World}{base g N c:Nat}{L:List Rc}(h:OwnRc W base (.slice (some ⟨g,0,none⟩) N c) L)(hl:L.length=N)(i j:Nat)(hi:i<L.length)(hj:j<L.length) :
 OwnRc ((W.setCells g (i*10) L[j].cells).setCells g (j*10) L[i].cells) base (.slice (some ⟨g,0,none⟩) N c) (Sym.swp L i j):=by
 rw [Sym.swp_at hi hj];have h2:=own_setk h rc_len hl i hi L[j];exact own_setk h2 rc_len (by rw [List.length_set];exact hl) j (by rw [List.length_set];exact hj) L[i]
theorem vswapr_any(g c base a b n N:Nat)(xs:List Rc)(hN:xs.length=N)(cv:Value)(w:World)(h:OwnRc w base (.slice (some ⟨g,0,none⟩) N c) xs)(hab:a+n≤b)(hb:b+n≤N)(hl:N≤1000000000) :
 Calls Tryz.prog 286 #[.slice (some ⟨g,0,none⟩) N c,.int .i64 a,.int .i64 b,.int .i64 n,cv] w fun e w'=>e=.returned (.tuple #[])∧OwnRc w' base (.slice (some ⟨g,0,none⟩) N c) (Sym.swr xs a b n)∧Turn w w' [g]:=by
 have H:=lh h;clear h;go_enter Tryz.func286,Tryz.ntmps286;go_wp2;go_loopw [10] (fun i wr=>∃ k:Nat,k≤n∧i=.int .i64 k∧Hid (OwnRc wr base (.slice (some ⟨g,0,none⟩) N c) (Sym.swr xs a b k))∧Hid (Turn w wr [g])) (fun i _=>n-(intOf i).toNat)
 case atStart=>exact ⟨0,Nat.zero_le _,rfl,H.out,Turn.refl _ _⟩
 case round =>
  clear H;obtain ⟨k,hk,rfl,HO,HT⟩:=hrel
  by_cases hlt:k<n
  ·have hlen:=(Sym.swr_len xs a b k).trans hN;obtain ⟨ys,hys⟩:∃ ys,Sym.swr xs a b k=ys:=⟨_,rfl⟩;have hsw:Sym.swr xs a b (k+1)=Sym.swp ys (a+k) (b+k):=by rw [Sym.swr,hys]
   rw [hys] at HO hlen;obtain ⟨i,hi⟩:∃ i,i=a+k:=⟨_,rfl⟩;obtain ⟨j,hj⟩:∃ j,j=b+k:=⟨_,rfl⟩;rw [← hi,← hj] at hsw;have hia:i<ys.length:=by omega
   have hib:j<ys.length:=by omega
   rw [Sym.swp_at hia hib] at hsw;obtain ⟨a0,a1,a2,_⟩:=own_at HO.out rc_len hlen i hia;obtain ⟨b0,b1,_,_⟩:=own_at HO.out rc_len hlen j hib;have ho2:=own_setk HO.out rc_len hlen i hia ys[j];have ho3:=own_setk ho2 rc_len (by rw [List.length_set];exact hlen) j (by rw [List.length_set];exact hib) ys[i];rw [← hsw] at ho3;have HO3:=lh ho3;have hne:i≠j:=by omega
   have hiN:i<N:=by omega
   have hjN:j<N:=by omega
   have e1:IntKind.i64.wrap ((a:Int)+(k:Int))=(i:Int):=by rw [IntWalk.i64_in _ ⟨by omega,by omega⟩];omega
   have e2:IntKind.i64.wrap ((b:Int)+(k:Int))=(j:Int):=by rw [IntWalk.i64_in _ ⟨by omega,by omega⟩];omega
   generalize ys[i]=x at a0 ho2 ho3 HO3;generalize ys[j]=y at b0 ho2 ho3 HO3
   replace a0:=rd10_of a0
   replace b0:=rd10_of b0
   replace a1:thB wr g (i*10):=a1
   replace b1:thB wr g (j*10):=b1
   clear ho2 ho3 hsw hys hi hj;have HG:=lh (Turn.setR2 wr g i j y x);have HK3:=lh (keep_set2d wr g i j y x);go_wp2;go_region;generalize (wr.drew.setCells g (i*10) y.cells).setCells g (j*10) x.cells=w3 at HK3 ⊢;go_wp2;go_roundw
   case rel=>exact ⟨k+1,by omega,by go_num,HO3.out.keep HK3.out,HT.out.trans (HG.out.trans (Turn.keep HK3.out _))⟩
   case measure=>simp [intOf];omega
  ·have hkn:k=n:=by omega
   subst hkn;go_wp2;go_end0;exact ⟨rfl,HO.out,HT.out⟩
theorem vrot_any(g c base a m b N:Nat)(xs:List Rc)(hN:xs.length=N)(cv:Value)(w:World)(h:OwnRc w base (.slice (some ⟨g,0,none⟩) N c) xs)(ham:a<m)(hmb:m<b)(hb:b≤N)(hl:N≤1000000000) :
 Calls Tryz.prog 264 #[.slice (some ⟨g,0,none⟩) N c,.int .i64 a,.int .i64 m,.int .i64 b,cv] w fun e w'=>e=.returned (.tuple #[])∧OwnRc w' base (.slice (some ⟨g,0,none⟩) N c) (Sym.rotL xs a m b)∧Turn w w' [g]:=by
 have H:=lh h;have e1:IntKind.i64.wrap ((m:Int)-(a:Int))=((m-a:Nat):Int):=by rw [IntWalk.i64_in _ ⟨by omega,by omega⟩];omega
 have e2:IntKind.i64.wrap ((b:Int)-(m:Int))=((b-m:Nat):Int):=by rw [IntWalk.i64_in _ ⟨by omega,by omega⟩];omega
 have HP:=lh (Sym.parts xs a m b (by omega) (by omega));have hla:(xs.take a).length=a:=by simp;omega
 have hlx:(Sym.seg xs a m).length=m-a:=Sym.seg_len xs a m (by omega) (by omega);have hly:(Sym.seg xs m b).length=b-m:=Sym.seg_len xs m b (by omega) (by omega);have HLA:=lh (And.intro hla (And.intro hlx hly));clear h hla hlx hly;go_enter Tryz.func264,Tryz.ntmps264;go_wp2;go_loopw [10,11] (fun vi vj wr=>∃ (i j:Nat) (P X Y Q:List Rc),vi=.int .i64 i∧vj=.int .i64 j∧1≤i∧1≤j∧Hid (X.length=i)∧Hid (Y.length=j)∧Hid (P.length+i=m)∧Hid ((P++(X++(Y++Q))).length=N)∧Hid (P++(Y++(X++Q))=Sym.rotL xs a m b)∧Hid (OwnRc wr base (.slice (some ⟨g,0,none⟩) N c) (P++(X++(Y++Q))))∧Hid (Turn w wr [g])) (fun vi vj _=>(intOf vi).toNat+(intOf vj).toNat)
 case atStart=>exact ⟨m-a,b-m,xs.take a,Sym.seg xs a m,Sym.seg xs m b,xs.drop b,rfl,rfl,by omega,by omega,HLA.out.2.1,HLA.out.2.2,by show _=_;rw [HLA.out.1];omega,by show _=_;rw [← HP.out];exact hN,rfl,by rw [← HP.out];exact H.out,Turn.refl _ _⟩
 case round =>
  clear H e1 e2;obtain ⟨i,j,P,X,Y,Q,rfl,rfl,hi1,hj1,HX,HY,HM,HLEN,HR,HO,HT⟩:=hrel;have hij:i+j≤N:=by
   have:=HLEN.out;simp only [List.length_append,HX.out,HY.out] at this;omega
  have hpm:P.length+i=m:=HM.out;have hlen2:P.length+i+j+Q.length=N:=by
   have:=HLEN.out;simp only [List.length_append,HX.out,HY.out] at this;omega
  have e1:IntKind.i64.wrap ((m:Int)-(i:Int))=((P.length:Nat):Int):=by rw [IntWalk.i64_in _ ⟨by omega,by omega⟩];omega
  rcases Nat.lt_trichotomy i j with hlt|heq|hgt
  ·have hne:¬ ((i:Int)=(j:Int)):=by omega
   have hng:¬ ((j:Int)<(i:Int)):=by omega
   obtain ⟨q,hq⟩:∃ q,q=m+j-i:=⟨_,rfl⟩;obtain ⟨r,hr⟩:∃ r,r=j-i:=⟨_,rfl⟩;have e2:IntKind.i64.wrap ((m:Int)+(j:Int))=(m:Int)+(j:Int):=by rw [IntWalk.i64_in _ ⟨by omega,by omega⟩]
   have e3:IntKind.i64.wrap ((m:Int)+(j:Int)-(i:Int))=(q:Int):=by rw [IntWalk.i64_in _ ⟨by omega,by omega⟩];omega
   have e4:IntKind.i64.wrap ((j:Int)-(i:Int))=(r:Int):=by rw [IntWalk.i64_in _ ⟨by omega,by omega⟩];omega
   obtain ⟨X',Y',Q',hX',hY',hS,hR⟩:=Sym.rot_lt (Q:=Q) HX.out HY.out HM.out hlt;have HC:=lh (vswapr_any g c base P.length (m+j-i) i N _ HLEN.out cv wr HO.out (by omega) (by omega) hl);have hlen3:=(Sym.swr_len (P++(X++(Y++Q))) P.length (m+j-i) i).trans HLEN.out;rw [hS] at HC hlen3;rw [← hq] at HC;rw [← hr] at hY';have hr1:1≤r:=by omega
   have HRR:=lh hr;have HL3:=lh hlen3;have HX':=lh hX';have HY':=lh hY';have HR':=lh hR;clear hlen3 hX' hY' hR hS hq hr;go_wp2_with (go_at_call 286;refine hold ?_);refine unhold ?_;refine HC.out.mono ?_;rintro e w' ⟨rfl,hO,hT⟩;have HO':=lh hO;have HT':=lh (HT.out.trans hT);clear hO hT HC HO HT;go_wp2;go_roundw
   case rel=>exact ⟨i,r,P,X',Y',Q',rfl,rfl,hi1,hr1,HX'.out,HY'.out,HM.out,HL3.out,HR'.out.trans HR.out,HO'.out,HT'.out⟩
   case measure=>have:=HRR.out;simp [intOf];omega
  ·subst heq;have hS:=Sym.rot_eq (Q:=Q) HX.out HY.out HM.out;have HC:=lh (vswapr_any g c base P.length m i N _ HLEN.out cv wr HO.out (by omega) (by omega) hl);rw [hS,HR.out] at HC;clear hS;go_wp2_with (go_at_call 286;refine hold ?_);refine unhold ?_;refine HC.out.mono ?_;rintro e w' ⟨rfl,hO,hT⟩;have HO':=lh hO;have HT':=lh (HT.out.trans hT);clear hO hT HC HO HT;go_wp2;go_end0;exact ⟨rfl,HO'.out,HT'.out⟩
  ·have hne:¬ ((i:Int)=(j:Int)):=by omega
   have e4:IntKind.i64.wrap ((i:Int)-(j:Int))=((i-j:Nat):Int):=by rw [IntWalk.i64_in _ ⟨by omega,by omega⟩];omega
   obtain ⟨P',X',Y',hX',hY',hP',hS,hR⟩:=Sym.rot_gt (Q:=Q) HX.out HY.out HM.out hgt;have HC:=lh (vswapr_any g c base P.length m j N _ HLEN.out cv wr HO.out (by omega) (by omega) hl);have hlen3:=(Sym.swr_len (P++(X++(Y++Q))) P.length m j).trans HLEN.out;rw [hS] at HC hlen3;have HL3:=lh hlen3;have HX':=lh hX';have HY':=lh hY';have HP':=lh hP';have HR':=lh hR;clear hlen3 hX' hY' hP' hR hS;go_wp2_with (go_at_call 286;refine hold ?_);refine unhold ?_;refine HC.out.mono ?_;rintro e w' ⟨rfl,hO,hT⟩;have HO':=lh hO;have HT':=lh (HT.out.trans hT);clear hO hT HC HO HT;go_wp2;go_roundw
   case rel=>exact ⟨i-j,j,P',X',Y',Q,by go_num,rfl,by omega,hj1,HX'.out,HY'.out,HP'.out,HL3.out,HR'.out.trans HR.out,HO'.out,HT'.out⟩
   case measure=>simp [intOf];omega
end Go.Proofs.YtpkocnpamcchcaaGreatDoor
