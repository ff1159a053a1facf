/- Parts of the proof. -/
import Derived.Deep.Slices
import Derived.Deep.Fields
import Derived.ChangeSame
import Derived.Lib.SmallJoins
import Derived.Carry
import Derived.SizedLaws
import Derived.ShutString
import Derived.BigQuiet
import Derived.Shelf.Abstract
import Derived.Maps.AppendAt
import Derived.Tactics
import Derived.Laws.RangeAny
import Derived.LoopTactic
import Derived.Test.YtpkocnpamcchcaaGreatDoorChecked
import Derived.Test.YtpkocnpamcchcaaGreatDoorK01
set_option maxRecDepth 100000
set_option maxHeartbeats 4000000
set_option linter.unusedSimpArgs false
set_option linter.unusedVariables false
set_option linter.unnecessarySimpa false
namespace Go.Proofs.YtpkocnpamcchcaaGreatDoor
open Go.RowKit Go.Zone Go.ChangeShapes Go.WideShapes Go.Deep Go.Joins Go.ChangeMaps
section
variable {H:Type} {enc:TypeId × Value→H} {P:Program} {w:World} {base:Nat} {spare:Nat→Bool} {held:Bool}
theorem open_slice_fields{t e:TypeId}{fs:Array Field}{fuel:Nat}{cs:List Value}{x:DataW H × List MemPlace}(ht:P.underlying t=some (.slice e))(he:P.underlying e=some (.struct fs))
 (hone:oneCellFields P fs=true) (hC:P.cellsOf e=fs.size) (h:DataW.trod enc P w base spare held fuel t cs=some x) :
 (cs=[.slice none 0 0]∧x=(.nil,[])) ∨
 ∃ (a:Addr) (len cap m:Nat) (D:Nat→DataW H) (Pl:Nat→List MemPlace),cs=[.slice (some a) len cap]∧base≤a.block∧len≤cap∧cap≤maxLen∧m=(if spare a.block then cap else len) ∧
   x=(.slice ((List.range len).map D) ((List.range (m-len)).map fun j=>D (len+j)),MemPlace.row a (m*fs.size)++(List.range m).flatMap Pl) ∧
   ∀ i,i<m→∃ (ys:List (DataW H × List MemPlace)) (n:Nat),D i=.agg (ys.map (·.1))∧Pl i=ys.flatMap (·.2)∧ys.length=fs.size ∧
     ∀ (j:Nat) (f:Field),fs[j]? =some f→∃ (v:Value) (y:DataW H × List MemPlace),w.cell? (a.add (i*fs.size+j))=some v∧ys[j]? =some y∧DataW.trod enc P w base spare held n f.type [v]=some y:=by
 rcases open_slice ht h with h0 | ⟨a,len,cap,m,n,D,Pl,hcs,hb,hl,hm,hmm,hx,hi⟩
 ·exact .inl h0
 ·refine .inr ⟨a,len,cap,m,D,Pl,hcs,hb,hl,hm,hmm,by rw [hC] at hx;exact hx,fun i him=>?_⟩;obtain ⟨cs',hc,ht'⟩:=hi i him;rw [hC] at hc;obtain ⟨ys,n',hn',hy,hlen,hyl,hf⟩:=DataW.trod_struct he ht';obtain ⟨_,hcl,hat⟩:=World.cells?_some hc;simp only [Prod.mk.injEq] at hy;refine ⟨ys,n',hy.1,hy.2,hyl,fun j f hj=>?_⟩;obtain ⟨ho,hk⟩:=hone_of hone j f hj;have hjl:j<fs.size:=(Array.getElem?_eq_some_iff.1 hj).1;have hcell:=hat j hjl;have hv:cs'[j]? =some (cs'[j]'(by omega)):=List.getElem?_eq_getElem (by omega);have h1:=hf j f hj;rw [ho,hk] at h1;have hone':(cs'.drop j).take 1=[cs'[j]'(by omega)]:=by
   rw [List.drop_eq_getElem_cons (by omega)];rfl
  rw [hone'] at h1;have hys:ys[j]? =some (ys[j]'(by omega)):=List.getElem?_eq_getElem (by omega);refine ⟨_,_,?_,hys,h1.trans hys⟩;rw [← Go.Deep.add_add,hcell,hv]
theorem choose_list{α:Type}{Q:Nat→α→Prop}(n:Nat)(h:∀ i,i<n→∃ a,Q i a):∃ l:List α,l.length=n∧∀ i,(hi:i<l.length)→Q i l[i]:=by
 induction n with
 | zero=>exact ⟨[],rfl,fun i hi=>absurd hi (Nat.not_lt_zero _)⟩
 | succ n ih =>
   obtain ⟨l,hl,hq⟩:=ih fun i hi=>h i (by omega);obtain ⟨a,ha⟩:=h n (by omega);refine ⟨l++[a],by simp [hl],fun i hi=>?_⟩
   rcases Nat.lt_or_ge i l.length with h1|h1
   ·rw [List.getElem_append_left h1];exact hq i h1
   ·have:i=n:=by simp at hi;omega
    subst this;have h2:(l++[a])[i]'hi=a:=by rw [List.getElem_append_right (by omega)];simp [hl]
    rw [h2];exact ha
end
structure WfV(x:Val):Prop where
 k:(Lit.int .u8 x.k).wf=true
 n:(Lit.int .i64 x.n).wf=true
 s:x.s.size≤maxLen
theorem u_vals:Tryz.prog.underlying 56=some (.slice 72):=by kernel_rfl
def valTest(P:Program)(t:TypeId):Bool:=match P.underlying t with
 | some (.struct ⟨[f0,f1,f2]⟩)=>oneCellFields P #[f0,f1,f2]&&(match P.underlying f0.type,P.underlying f1.type,P.underlying f2.type with|some (.int .u8),some (.int .i64),some .string=>true|_,_,_=>false)
 | _=>false
theorem u_val:∃ f0 f1 f2,Tryz.prog.underlying 72=some (.struct #[f0,f1,f2])∧oneCellFields Tryz.prog #[f0,f1,f2]=true∧Tryz.prog.underlying f0.type=some (.int .u8)∧Tryz.prog.underlying f1.type=some (.int .i64)∧Tryz.prog.underlying f2.type=some .string:=by
 have h:valTest Tryz.prog 72=true:=by kernel_rfl
 unfold valTest at h
 split at h
 ·rename_i f0 f1 f2 hs;rw [Bool.and_eq_true] at h;obtain ⟨h1,h2⟩:=h
  split at h2
  ·rename_i a b c;exact ⟨f0,f1,f2,hs,h1,a,b,c⟩
  ·cases h2
 ·cases h
theorem c_val:Tryz.prog.cellsOf 72=3:=by kernel_rfl
theorem own_:ownKnob Tryz.prog.godebug=none:=by kernel_rfl
theorem laid_:laidOutB Tryz.prog=true:=by kernel_rfl
section
variable {H:Type} {enc:TypeId × Value→H} {w:World} {held:Bool}
end
section
variable {H:Type} {enc:TypeId × Value→H} {P:Program}
theorem post_of_below{f:Func}{s:ChangeSpec}{apart fresh handsOn again:Bool}{W W':World}{args:Array Value}{v:Value}{ds gs:List (DataW H)}{before pa pv:List MemPlace}
 (hW:DataW.Whole enc P f.params.toList s.vars apart W args.toList ds gs before)
 (hres:∀ (b:Nat) (sp:Nat→Bool) (hd:Bool),DataW.TrodAll enc P W' b sp hd f.resultTypes.toList (v.resultList f.resultTypes.size) (s.fn H (ds++gs)).results [])
 (hargs:∀ sp:Nat→Bool,(∀ p∈before,sp p.block=true)→DataW.TrodAll enc P W' 0 sp true f.params.toList args.toList (s.fn H (ds++gs)).args pa)
 (hvars:∀ sp:Nat→Bool,(∀ p∈before,sp p.block=true)→DataW.TrodVars enc P W' sp s.vars (s.fn H (ds++gs)).vars pv)
 (hps:before=pa++pv) (hb:Below W.heap.size W W')
 (hok:∀ (j:Nat) (t:TypeId) (r:Value),f.resultTypes[j]? =some t→(v.resultList f.resultTypes.size)[j]? =some r→Value.okWide P W' .any 0 t r) :
 s.post enc P f apart fresh handsOn again W args v W':=by
 have hlt:∀ p∈before,p.block<W.heap.size:=fun p hp=>hW.lt p hp;have hold:∀ p∈before,(fun b=>decide (b<W.heap.size)) p.block=true:=fun p hp=>by simpa using hlt p hp
 refine ⟨ds,gs,before,[],pa,pv,hW,hres _ _ _,hargs _ hold,hvars _ hold,World.keptBut_mono (fun p hp=>⟨hp,?_⟩) (hb.frame (·∈before)),fun _=>?_⟩
 ·rw [hps,List.mem_append] at hp;exact Or.inr hp
 ·obtain ⟨_,_,_,_,_,hz,hn⟩:=hW;refine ⟨hok,_,_,([]++pa)++pv,⟨[]++pa,pv,trodAll_append (hargs _ (fun _ _=>rfl)) (hres _ _ _),hvars _ (fun _ _=>rfl),rfl,?_,?_⟩,?_⟩
  ·intro b off hp;have hin:MemPlace.cell b off∈before:=by rw [hps];simpa using hp
   rw [hb.frozen (hlt _ hin)];exact hz b off hin
  ·intro ha;have:=hn ha;rw [hps] at this
   simpa using this
  ·intro p hp _;rw [hps]
   simpa using hp
end
theorem stays{H:Type}{enc:TypeId × Value→H}{P:Program}{t:TypeId}(hl:laidOutB P=true)(hr:P.readableRec t=true)(hrow:t<P.types.size){W W':World}{v:Value}{d:DataW H}{ps:List MemPlace}
 (h:DataW.Trod enc P W 0 (fun _=>true) true t v d ps) (hb:Below W.heap.size W W') (hlt:∀ x∈ps,x.block<W.heap.size) {sp:Nat→Bool} (hsp:∀ x∈ps,sp x.block=true) :
 DataW.Trod enc P W' 0 sp true t v d ps :=
 WideElems.Trod_stays hl hr hrow h (fun x hx=>hb.same (hlt x hx)) hsp
end Go.Proofs.YtpkocnpamcchcaaGreatDoor
namespace Go.Proofs.YtpkocnpamcchcaaGreatDoor
theorem u_bool:Tryz.prog.underlying 4=some .bool:=by kernel_rfl
theorem u_int:Tryz.prog.underlying 3=some (.int .i64):=by kernel_rfl
end Go.Proofs.YtpkocnpamcchcaaGreatDoor
namespace Go.Proofs.YtpkocnpamcchcaaGreatDoor
open Go.RowKit Go.Zone Go.Shelf
attribute [local go_sem] zone stepZ fill lookFs goes goesUpon dropFs cell_gro frozen_gro size_gro lt_add drew_gro tape_gro keep_refl
def PredOk{α:Type}(P:Program)(g:Nat)(lb:Array Value)(enc:α→Value)(p:α→Bool)(w:World):Prop :=
 ∀ (W:World) (x:α),Keep w W→Calls P g (#[enc x]++lb) W fun e w'=>e=.returned (.bool (p x))∧Keep W w'
theorem sl_len{α:Type}{w:World}{k c:Nat}{enc:α→List Value}{A:Option Addr}{xs:List α}(h:Sl w k enc A c xs):xs.length≤140737488355328:=h.len
theorem sl_val{w:World}{c:Nat}{A:Option Addr}{xs:List Val}(h:Sl w 3 Val.cells A c xs)(i:Nat)(hi:i<xs.length):∃ b off,A=some ⟨b,off,none⟩∧b<w.heap.size∧w.cell? ⟨b,off+i*3,none⟩=some (.int .u8 xs[i].k) ∧
 w.cell? ⟨b,off+i*3+1,none⟩=some (.int .i64 xs[i].n)∧w.cell? ⟨b,off+i*3+2,none⟩=some (.string xs[i].s):=by
 obtain ⟨b,off,hA,hc⟩:=h.at_ i hi;have h0:=hc 0 _ rfl;exact ⟨b,off,hA,World.block_lt_of_cell? w _ h0,h0,hc 1 _ rfl,hc 2 _ rfl⟩
def sumS(xs:List Val):Int:=xs.foldl (fun a x=>wrap64 (a+x.s.size)) 0
theorem sumS_succ(xs:List Val)(k:Nat)(h:k<xs.length):sumS (xs.take (k+1))=wrap64 (sumS (xs.take k)+xs[k].s.size):=by
 unfold sumS;rw [List.take_succ_eq_append_getElem h,List.foldl_append];rfl
def greatV(xs:List Val)(m:Int):Bool:=decide (m<xs.length)||decide (200000<sumS xs)
theorem great_any(A:Option Addr)(c:Nat)(xs:List Val)(m:Int)(w:World)(h:Sl w 3 Val.cells A c xs) :
 Calls Tryz.prog 58 #[.slice A xs.length c,.int .i64 m] w fun e w'=>e=.returned (.bool (greatV xs m))∧w=w':=by
 have hl:=sl_len h;go_enter Tryz.func58,Tryz.ntmps58;go_wp2;go_loop [5,6] (fun t i=>∃ k:Nat,k≤xs.length∧i=.int .i64 k∧t=.int .i64 (sumS (xs.take k))) (fun _ i=>xs.length-(intOf i).toNat)
 case atStart=>exact ⟨0,Nat.zero_le _,rfl,rfl⟩
 case round =>
  obtain ⟨k,hk,rfl,rfl⟩:=hrel
  by_cases hlt:k<xs.length
  ·obtain ⟨b,off,rfl,hb,h0,h1,h2⟩:=sl_val h k hlt;have HS:=lh (sumS_succ xs k hlt);clear h;go_wp2;go_round
   case rel=>exact ⟨k+1,by omega,by go_num,by rw [HS.out]⟩
   case measure=>simp [intOf];omega
  ·have:k=xs.length:=by omega
   subst this;simp only [List.take_length];go_wp2
   all_goals go_ret
   all_goals exact ⟨ret_bool (by unfold greatV;simp_all),rfl⟩
def idxP{α:Type}(p:α→Bool):List α→Nat→Int
 | [],_=> -1
 | x :: r,i=>if p x then (i:Int) else idxP p r (i+1)
theorem idxP_at{α:Type}(p:α→Bool):∀ (xs:List α) (i k:Nat),(∀ j,(h:j<xs.length)→j<k→p xs[j]=false)→idxP p xs i=idxP p (xs.drop k) (i+k)
 | _,_,0,_=>rfl
 | [],i,k+1,_=>rfl
 | x :: r,i,k+1,h=>by
   have h0:=h 0 (by simp) (by omega);simp only [List.getElem_cons_zero] at h0;simp only [idxP,h0,Bool.false_eq_true,if_false,List.drop_succ_cons];rw [idxP_at p r (i+1) k (fun j hj hk=>h (j+1) (by simpa using hj) (by omega))]
   congr 1;omega
theorem idxP_any{α:Type}(p:α→Bool):∀ (xs:List α) (i:Nat),decide (0≤idxP p xs i)=xs.any p
 | [],i=>by simp [idxP]
 | x :: r,i=>by
   unfold idxP
   by_cases h:p x=true
   ·simp [h]
   ·simp only [h,Bool.false_eq_true,if_false,List.any_cons,Bool.false_or];exact idxP_any p r (i+1)
theorem indexFunc_any(A:Option Addr)(c:Nat)(xs:List Val)(g:Nat)(lb:Array Value)(p:Val→Bool)(w:World)(eg:∀ args w,(callFunc g args).run Tryz.prog w=.ok (.enter g args) w)
 (h:Sl w 3 Val.cells A c xs) (hp:PredOk Tryz.prog g lb Val.v p w) :
 Calls Tryz.prog 157 #[.slice A xs.length c,.func (.func g) #[] lb] w fun e w'=>e=.returned (.int .i64 (idxP p xs 0))∧Keep w w':=by
 have hl:=sl_len h;have HP:=lh hp;clear hp;go_enter Tryz.func157,Tryz.ntmps157;go_wp2;go_loopw [5,8] (fun _ i wr=>∃ k:Nat,k≤xs.length∧i=.int .i64 k∧Hid (Keep w wr)∧Hid (∀ j,(h:j<xs.length)→j<k→p xs[j]=false)) (fun _ i _=>xs.length-(intOf i).toNat)
 case atStart=>exact ⟨0,Nat.zero_le _,rfl,Keep.refl _,fun j _ hj=>absurd hj (Nat.not_lt_zero _)⟩
 case round =>
  obtain ⟨k,hk,rfl,HK,HR⟩:=hrel
  by_cases hlt:k<xs.length
  ·have hcall:=HP.out wr xs[k] HK.out;obtain ⟨b,off,rfl,hb,h0,h1,h2⟩:=sl_val (h.keep HK.out) k hlt;clear h
   by_cases hq:p xs[k]=true
   ·rw [hq] at hcall;have HC:=lh hcall;have HQ:=lh hq;clear hcall hq;go_wp2_with (go_at_fn g;refine HC.out.mono ?_;rintro e w' ⟨rfl,hk'⟩);go_ret;exact ⟨ret_int (by rw [idxP_at p xs 0 k HR.out,List.drop_eq_getElem_cons hlt];simp [idxP,HQ.out]),HK.out.trans hk'⟩
   ·have hq':p xs[k]=false:=by simpa using hq
    rw [hq'] at hcall;have HC:=lh hcall;have HQ:=lh hq';clear hcall hq hq';go_wp2_with (go_at_fn g;refine HC.out.mono ?_;rintro e w' ⟨rfl,hk'⟩);go_roundw
    case rel=>exact ⟨k+1,by omega,by go_num,HK.out.trans hk',fun j hj hjk=>by
     by_cases e:j=k
     ·subst e;exact HQ.out
     ·exact HR.out j hj (by omega)⟩
    case measure=>simp [intOf];omega
  ·go_wp2;go_ret;exact ⟨ret_int (by rw [idxP_at p xs 0 xs.length fun j hj _=>HR.out j hj (by omega)];simp [idxP]),HK.out⟩
theorem containsFunc_any(A:Option Addr)(c:Nat)(xs:List Val)(g:Nat)(lb:Array Value)(p:Val→Bool)(w:World)(eg:∀ args w,(callFunc g args).run Tryz.prog w=.ok (.enter g args) w)
 (h:Sl w 3 Val.cells A c xs) (hp:PredOk Tryz.prog g lb Val.v p w) :
 Calls Tryz.prog 114 #[.slice A xs.length c,.func (.func g) #[] lb] w fun e w'=>e=.returned (.bool (xs.any p))∧Keep w w':=by
 have HP:=lh hp;clear hp;have HH:=lh h;clear h;rw [← idxP_any p xs 0];go_enter Tryz.func114,Tryz.ntmps114;go_wp2_with (go_at_call 157;refine (indexFunc_any A c xs g lb p _ eg HH.out HP.out).mono ?_;rintro e w' ⟨rfl,hk⟩;(first|obtain ⟨p,rfl⟩:=Zone.gro_of_gro _ _ hk|obtain ⟨p,rfl⟩:=Zone.gro_of_below _ hk);clear hk);go_ret;exact ⟨rfl,(by repeat first|exact kp0|apply kp1|apply kp2|apply kp3|apply kp4)⟩
def noMay(x:Val):Bool:=!mayV x
theorem of1_any(x:Val)(w:World):Calls Tryz.prog 115 #[x.v] w fun e w'=>e=.returned (.bool (noMay x))∧Keep w w':=by
 obtain ⟨k,n,s⟩:=x;unfold noMay;simp only [Val.v];go_enter Tryz.func115,Tryz.ntmps115;go_wp2_with (go_at_call 102;refine (may_any ⟨k,n,s⟩ _).mono ?_;rintro e w' ⟨rfl,hk⟩;(first|obtain ⟨p,rfl⟩:=Zone.gro_of_gro _ _ hk|obtain ⟨p,rfl⟩:=Zone.gro_of_below _ hk);clear hk);go_ret;exact ⟨rfl,(by repeat first|exact kp0|apply kp1|apply kp2|apply kp3|apply kp4)⟩
theorem of2_any(x:Val)(k:Int)(b:Nat)(w:World)(h:w.cell? ⟨b,0,none⟩=some (.int .u8 k))(hb:b<w.heap.size):Calls Tryz.prog 119 #[x.v,.pointer (some ⟨b,0,none⟩)] w fun e w'=>e=.returned (.bool (x.k != k))∧Keep w w':=by
 obtain ⟨k',n,s⟩:=x;simp only [Val.v];go_enter Tryz.func119,Tryz.ntmps119;go_wp2;go_ret;exact ⟨rfl,(by repeat first|exact kp0|apply kp1|apply kp2|apply kp3|apply kp4)⟩
theorem rmay_any(x:Val)(w:World):Calls Tryz.prog 92 #[x.v] w fun e w'=>e=.returned (.bool (mayV x))∧Keep w w':=by
 obtain ⟨k,n,s⟩:=x;simp only [Val.v,mayV];go_enter Tryz.func92,Tryz.ntmps92;go_wp2
 all_goals go_ret
 all_goals exact ⟨ret_bool (by simp [*]),(by repeat first|exact kp0|apply kp1|apply kp2|apply kp3|apply kp4)⟩
end Go.Proofs.YtpkocnpamcchcaaGreatDoor
namespace Go.Zone
open Go.RowKit
structure Elt(P:Program)(t e:TypeId)(k bytes:Nat):Prop where
 ex:∃ i z,P.underlying t=some (.slice e)∧P.info? e=some i∧i.zero=some z∧i.size=k∧i.bytes=bytes∧z.cells.size=k∧0<k∧0<bytes
def Own{α:Type}(w:World)(base:Nat)(e:TypeId)(k:Nat)(enc:α→List Value)(v:Value)(xs:List α):Prop:=w.ownsRow base e k v xs.length (xs.flatMap enc)
section
variable {α:Type} {w w':World} {base k:Nat} {e:TypeId} {enc:α→List Value} {v:Value} {xs:List α}
theorem Own.nil_(w:World)(base:Nat)(e:TypeId)(k:Nat)(enc:α→List Value):Own w base e k enc (.slice none 0 0) ([]:List α):=World.ownsRow_nil w base e k
theorem flat_len(hk:∀ x,(enc x).length=k):∀ (xs:List α),(xs.flatMap enc).length=xs.length*k
 | []=>by simp
 | x :: r=>by simp [flat_len hk r,hk x,Nat.add_mul,Nat.add_comm]
theorem flat_get(hk:∀ x,(enc x).length=k):∀ (xs:List α) (i j:Nat) (h:i<xs.length) (u:Value),(enc xs[i])[j]? =some u→(xs.flatMap enc)[i*k+j]? =some u
 | [],i,_,h,_,_=>absurd h (Nat.not_lt_zero _)
 | x :: r,0,j,_,u,hu=>by
   have hj:j<(enc x).length:=(List.getElem?_eq_some_iff.1 hu).1;simp only [List.flatMap_cons,Nat.zero_mul,Nat.zero_add];rw [List.getElem?_append_left hj];exact hu
 | x :: r,i+1,j,h,u,hu=>by
   simp only [List.flatMap_cons];rw [List.getElem?_append_right (by rw [hk x,Nat.add_mul];omega),hk x];have:=flat_get hk r i j (by simpa using h) u hu;rw [show (i+1)*k+j-k=i*k+j by rw [Nat.add_mul];omega];exact this
theorem Own.sl(h:Own w base e k enc v xs)(hk:∀ x,(enc x).length=k)(hl:xs.length≤140737488355328):∃ A c,v=.slice A xs.length c∧Sl w k enc A c xs:=by
 rcases h.2 with ⟨rfl,h0⟩ | ⟨g,cap,cur,rfl,hb,hg,hn,hm,hs,ht⟩
 ·have:xs=[]:=List.eq_nil_of_length_eq_zero h0;subst this;exact ⟨none,0,rfl,Sl.nil_ _ (by omega)⟩
 ·refine ⟨some ⟨g,0,none⟩,cap,rfl,hn,by simpa [maxLen] using hm,hl,fun i hi=>⟨g,0,rfl,fun j u hu=>?_⟩⟩;have h1:=flat_get hk xs i j hi u hu;rw [← ht,List.getElem?_take] at h1
  split at h1
  ·simp only [World.cell?,hg];simp only [Nat.zero_add,Option.isSome_none,Bool.false_eq_true,if_false]
   simpa using h1
  ·cases h1
theorem Own.grown{row:Option Nat}(h:Own w base e k enc v xs)(hg:w.grownBy w' row)(hr:∀ j,row=some j→v.ownBlock≠some j):Own w' base e k enc v xs:=by
 refine World.ownsRow.kept h hg ?_
 cases hv:v.ownBlock with
 | none=>exact .inl rfl
 | some j=>exact .inr fun e=>hr j e.symm hv
theorem Own.keep(h:Own w base e k enc v xs)(hk:Keep w w'):Own w' base e k enc v xs:=by
 refine ⟨h.1,?_⟩
 rcases h.2 with hn | ⟨g,cap,cur,rfl,hb,hg,rest⟩
 ·exact .inl hn
 ·exact .inr ⟨g,cap,cur,rfl,hb,(hk.block g (Array.getElem?_eq_some_iff.1 hg).1).trans hg,rest⟩
theorem Own.lt(h:Own w base e k enc v xs):∀ j,v.ownBlock=some j→base≤j∧j<w.heap.size:=World.ownsRow.lt h
theorem Own.base_mono{base':Nat}(h:Own w base e k enc v xs)(hb:base'≤base):Own w base' e k enc v xs:=by
 refine ⟨h.1,?_⟩
 rcases h.2 with hn | ⟨g,cap,cur,rfl,hb',hg,rest⟩
 ·exact .inl hn
 ·exact .inr ⟨g,cap,cur,rfl,by omega,hg,rest⟩
end
section
variable {α:Type} {P:Program} {w:World}
theorem run_app1{t ty e:TypeId}{k bytes:Nat}(E:Elt P t e k bytes){enc:α→List Value}(hk:∀ x,(enc x).length=k)(h1:∀ x,∀ u∈enc x,u.oneCell'=true){base:Nat}{v:Value}{xs ys:List α}(hown:Own w base e k enc v xs)
 {A:Option Addr} {c:Nat} (hy:Sl w k enc A c ys) (hlen:(xs.length+ys.length)*bytes≤140737488355328) (hbase:base≤w.heap.size) :
 ∃ v' w',(Builtin.append_ #[t,t] ty #[v,.slice A ys.length c]).run P w=.ok v' w'∧Own w' base e k enc v' (xs++ys)∧w.grownBy w' v.ownBlock∧(v'.ownBlock=v.ownBlock∨v'.ownBlock=some w.heap.size):=by
 obtain ⟨i,z,ht,hi,hz,hs,hb,hzc,hk0,hb0⟩:=E.ex;have hbig:xs.length+ys.length≤9223372036854775807:=by have:=Nat.le_mul_of_pos_right (xs.length+ys.length) hb0;omega
 rcases A with _|ad
 ·have h0:ys=[]:=by
   rcases ys with _ | ⟨y,r⟩
   ·rfl
   ·obtain ⟨_,_,hA,_⟩:=hy.at_ 0 (by simp)
    cases hA
  subst h0;refine ⟨v,w,?_,by simpa using hown,⟨rfl,rfl,rfl,Nat.le_refl _,fun _ _ _=>rfl⟩,.inl rfl⟩
  rcases hown.2 with ⟨rfl,h0⟩ | ⟨g,cap,cur,rfl,_,_,hnc,_⟩
  ·simp [Builtin.append_,run_underlying ht,sizeOf,typeInfo,hi,Builtin.lenOf,Builtin.firstCells]
  ·simp [Builtin.append_,run_underlying ht,sizeOf,typeInfo,hi,Builtin.lenOf,Builtin.firstCells,hnc,storeCells]
 ·have hcells:∀ j u,(ys.flatMap enc)[j]? =some u→w.cell? (ad.add j)=some u:=fun j u hu=>by
   have hj:j<(ys.flatMap enc).length:=(List.getElem?_eq_some_iff.1 hu).1;rw [flat_len hk] at hj;have hi':j/k<ys.length:=Nat.div_lt_of_lt_mul (by rw [Nat.mul_comm];exact hj);obtain ⟨b,off,hA,hc⟩:=hy.at_ (j/k) hi';injection hA with hA;subst hA;have hm:j%k<(enc ys[j/k]).length:=by rw [hk];exact Nat.mod_lt _ hk0
   have hg:=flat_get hk ys (j/k) (j%k) hi' _ (List.getElem?_eq_getElem hm);have hj2:j/k*k+j%k=j:=by rw [Nat.mul_comm];exact Nat.div_add_mod j k
   rw [hj2] at hg;rw [hg] at hu;have:=hc (j%k) _ (List.getElem?_eq_getElem hm);rw [Nat.add_assoc,hj2] at this;rw [← Option.some.inj hu];unfold Addr.add
   split
   ·rename_i h0;subst h0;exact this
   ·exact this
  obtain ⟨v',w',hr,h2,h3,_,h5⟩:=run_append_own_at (P:=P) w base t ty e i z k bytes ht hi hz hs hb hzc hk0 v xs.length (xs.flatMap enc) hown ad ys.length c (ys.flatMap enc) (flat_len hk ys) hcells
   (fun u hu=>by obtain ⟨y,_,hy⟩:=List.mem_flatMap.1 hu;exact h1 y u hy) (by unfold maxLen;omega) hlen hbase
  refine ⟨v',w',hr,?_,h3,h5⟩;unfold Own;rw [List.length_append,List.flatMap_append];exact h2
theorem wpList_app{t e:TypeId}{k bytes:Nat}(E:Elt P t e k bytes){enc:α→List Value}(hk:∀ x,(enc x).length=k)(h1:∀ x,∀ u∈enc x,u.oneCell'=true){ops:Array Oper}{rest:List Oper}{o:Oper}{a:Act}{Q:Exit→Act→World→Prop}
 (hgd:o.guard=none) (s x:Operand) (ho:o.op=.call { callee:=.builtin .append,args:=#[s,x],argTypes:=#[t,t] })
 {base:Nat} {v:Value} {xs ys:List α} (hown:Own w base e k enc v xs) (hs:a.eval s=v) {A:Option Addr} {c:Nat} (hx:a.eval x=.slice A ys.length c) (hy:Sl w k enc A c ys)
 (hlen:(xs.length+ys.length)*bytes≤140737488355328) (hbase:base≤w.heap.size)
 (h:∀ v' w',Own w' base e k enc v' (xs++ys)→w.grownBy w' v.ownBlock→(v'.ownBlock=v.ownBlock∨v'.ownBlock=some w.heap.size)→wpList P ops Q rest (a.put o.dst v') w'):wpList P ops Q (o :: rest) a w :=
 wpList_plain hgd fun _ hK=>by
  obtain ⟨v',w',hr,h2,h3,h4⟩:=run_app1 (ty:=o.type) E hk h1 hown hy hlen hbase;unfold Oper.wp execOp;simp only [ho,resolve,invoke,builtin,Sem.run_bind,Sem.run_pure,Result.andThen_ok,List.map_toArray,List.map_cons,List.map_nil,hs,hx,hr];exact hK _ _ (h v' w' h2 h3 h4)
end
section
variable {α:Type} {w wr w':World} {base k:Nat} {e:TypeId} {enc:α→List Value} {v:Value} {xs:List α}
theorem Own.kept(h:Own wr base e k enc v xs)(hg:wr.grownBy w' v.ownBlock)(hK:Keep w wr)(hb:w.heap.size≤base):Keep w w':=hK.grown hg fun j hj=>by have:=(h.lt j hj).1;omega
theorem Own.after(h:Own wr base e k enc v xs)(hg:wr.grownBy w' v.ownBlock)(hK:Keep w wr)(hb:w.heap.size≤base):Keep w w'∧wr.heap.size≤w'.heap.size∧∀ (a:Addr) (u:Value),a.block<base→wr.cell? a=some u→w'.cell? a=some u :=
 ⟨hK.grown hg fun j hj=>by have:=(h.lt j hj).1;omega,hg.size,fun a u ha hc=>hg.cell hc fun hj=>by have:=(h.lt _ hj.symm).1;omega⟩
theorem Own.cell(h:Own wr base e k enc v xs)(hg:wr.grownBy w' v.ownBlock){a:Addr}{u:Value}(hc:wr.cell? a=some u)(ha:a.block<base):w'.cell? a=some u :=
 hg.cell hc fun hj=>by have:=(h.lt _ hj.symm).1;omega
theorem sl_one{α:Type}{w:World}{k:Nat}{enc:α→List Value}{g c:Nat}(y:α)(hc:1≤c)(hcm:c≤9223372036854775807)(h:∀ j u,(enc y)[j]? =some u→w.cell? ⟨g,j,none⟩=some u):Sl w k enc (some ⟨g,0,none⟩) c [y] :=
 ⟨hc,hcm,by simp,fun i hi=>⟨g,0,rfl,fun j u hu=>by
  have:i=0:=by simpa using hi
  subst this;have:=h j u hu
  simpa using this⟩⟩
end
theorem lookFs_nil{ops:Array Oper}{o:Oper}{fs:Frees}(h:((fs.map (·.1)).filter fun t=>(o.looksAt ops).contains t)=[]):lookFs ops o fs=[]:=by
 unfold lookFs;rw [List.filter_eq_nil_iff] at h ⊢;intro x hx;exact h x.1 (List.mem_map_of_mem hx)
theorem zone_free1{P:Program}{ops:Array Oper}{w:World}{o:Oper}{a:Act}{fs:Frees}{K:Act→Frees→Prop}{d:Tmp}{Φ:Pred}(u:Value)(hl:lookFs ops o fs=[(d,Φ)])
 (h:∀ p v,Φ v (w.gro p)→if Region.wanted o (yielded ops (a.put (some d) v).tmps) then goes P o (a.put (some d) v) (w.gro p) (fun v _=>v=u) else undef=u) (k:K (a.put o.dst u) (dropFs o.dst fs)):zone P ops w o a fs K :=
 ⟨u,fun p=>by rw [hl];exact fun v hv=>h p v hv,k⟩
theorem own_empty{α:Type}(w:World)(base:Nat)(e:TypeId)(k:Nat)(enc:α→List Value)(g:Nat)(hb:base≤g)(hg:w.heap[g]? =some (.cells #[] e (0,0))):Own w base e k enc (.slice (some ⟨g,0,none⟩) 0 0) ([]:List α) :=
 ⟨by simp,.inr ⟨g,0,#[],rfl,hb,hg,Nat.le_refl _,Nat.zero_le _,by simp,by simp⟩⟩
theorem lt_add2{a b:Nat}(c0 c1:Nat)(h:a<b):(a<b+c0+c1)=True:=eq_true (by omega)
theorem lt_add3{a b:Nat}(c0 c1 c2:Nat)(h:a<b):(a<b+c0+c1+c2)=True:=eq_true (by omega)
theorem lt_add4{a b:Nat}(c0 c1 c2 c3:Nat)(h:a<b):(a<b+c0+c1+c2+c3)=True:=eq_true (by omega)
theorem lt_add5{a b:Nat}(c0 c1 c2 c3 c4:Nat)(h:a<b):(a<b+c0+c1+c2+c3+c4)=True:=eq_true (by omega)
theorem lt_add6{a b:Nat}(c0 c1 c2 c3 c4 c5:Nat)(h:a<b):(a<b+c0+c1+c2+c3+c4+c5)=True:=eq_true (by omega)
theorem lt_add7{a b:Nat}(c0 c1 c2 c3 c4 c5 c6:Nat)(h:a<b):(a<b+c0+c1+c2+c3+c4+c5+c6)=True:=eq_true (by omega)
theorem lt_add8{a b:Nat}(c0 c1 c2 c3 c4 c5 c6 c7:Nat)(h:a<b):(a<b+c0+c1+c2+c3+c4+c5+c6+c7)=True:=eq_true (by omega)
theorem lt_add9{a b:Nat}(c0 c1 c2 c3 c4 c5 c6 c7 c8:Nat)(h:a<b):(a<b+c0+c1+c2+c3+c4+c5+c6+c7+c8)=True:=eq_true (by omega)
theorem lt_add10{a b:Nat}(c0 c1 c2 c3 c4 c5 c6 c7 c8 c9:Nat)(h:a<b):(a<b+c0+c1+c2+c3+c4+c5+c6+c7+c8+c9)=True:=eq_true (by omega)
theorem lt_add11{a b:Nat}(c0 c1 c2 c3 c4 c5 c6 c7 c8 c9 c10:Nat)(h:a<b):(a<b+c0+c1+c2+c3+c4+c5+c6+c7+c8+c9+c10)=True:=eq_true (by omega)
theorem lt_add12{a b:Nat}(c0 c1 c2 c3 c4 c5 c6 c7 c8 c9 c10 c11:Nat)(h:a<b):(a<b+c0+c1+c2+c3+c4+c5+c6+c7+c8+c9+c10+c11)=True:=eq_true (by omega)
end Go.Zone
namespace Go.Proofs.YtpkocnpamcchcaaGreatDoor
open Go.RowKit Go.Zone Go.Shelf
attribute [local go_sem] zone stepZ fill lookFs goes goesUpon dropFs cell_gro frozen_gro size_gro lt_add drew_gro tape_gro keep_refl
attribute [local go_sem] lt_add2 lt_add3 lt_add4 lt_add5 lt_add6 lt_add7 lt_add8 lt_add9 lt_add10 lt_add11 lt_add12
structure Col where
 name:ByteArray
 kind:Int
def Col.cells(c:Col):List Value:=[.string c.name,.int .u8 c.kind]
@[reducible] def Col.v(c:Col):Value:=.agg #[.string c.name,.int .u8 c.kind]
instance:Inhabited Col:=⟨⟨ByteArray.empty,0⟩⟩
def isCol(n:ByteArray)(c:Col):Bool:=c.name.toList==n.toList
theorem sl_col{w:World}{c:Nat}{A:Option Addr}{xs:List Col}(h:Sl w 2 Col.cells A c xs)(i:Nat)(hi:i<xs.length):∃ b off,A=some ⟨b,off,none⟩∧b<w.heap.size∧w.cell? ⟨b,off+i*2,none⟩=some (.string xs[i].name) ∧
 w.cell? ⟨b,off+i*2+1,none⟩=some (.int .u8 xs[i].kind):=by
 obtain ⟨b,off,hA,hc⟩:=h.at_ i hi;have h0:=hc 0 _ rfl;exact ⟨b,off,hA,World.block_lt_of_cell? w _ h0,h0,hc 1 _ rfl⟩
theorem indexCol_any(A:Option Addr)(c:Nat)(xs:List Col)(g:Nat)(lb:Array Value)(p:Col→Bool)(w:World)(eg:∀ args w,(callFunc g args).run Tryz.prog w=.ok (.enter g args) w)
 (h:Sl w 2 Col.cells A c xs) (hp:PredOk Tryz.prog g lb Col.v p w) :
 Calls Tryz.prog 185 #[.slice A xs.length c,.func (.func g) #[] lb] w fun e w'=>e=.returned (.int .i64 (idxP p xs 0))∧Keep w w':=by
 have hl:=sl_len h;have HP:=lh hp;clear hp;go_enter Tryz.func185,Tryz.ntmps185;go_wp2;go_loopw [5,8] (fun _ i wr=>∃ k:Nat,k≤xs.length∧i=.int .i64 k∧Hid (Keep w wr)∧Hid (∀ j,(h:j<xs.length)→j<k→p xs[j]=false)) (fun _ i _=>xs.length-(intOf i).toNat)
 case atStart=>exact ⟨0,Nat.zero_le _,rfl,Keep.refl _,fun j _ hj=>absurd hj (Nat.not_lt_zero _)⟩
 case round =>
  obtain ⟨k,hk,rfl,HK,HR⟩:=hrel
  by_cases hlt:k<xs.length
  ·have hcall:=HP.out wr xs[k] HK.out;obtain ⟨b,off,rfl,hb,h0,h1⟩:=sl_col (h.keep HK.out) k hlt;clear h
   by_cases hq:p xs[k]=true
   ·rw [hq] at hcall;have HC:=lh hcall;have HQ:=lh hq;clear hcall hq;go_wp2_with (go_at_fn g;refine HC.out.mono ?_;rintro e w' ⟨rfl,hk'⟩);go_ret;exact ⟨ret_int (by rw [idxP_at p xs 0 k HR.out,List.drop_eq_getElem_cons hlt];simp [idxP,HQ.out]),HK.out.trans hk'⟩
   ·have hq':p xs[k]=false:=by simpa using hq
    rw [hq'] at hcall;have HC:=lh hcall;have HQ:=lh hq';clear hcall hq hq';go_wp2_with (go_at_fn g;refine HC.out.mono ?_;rintro e w' ⟨rfl,hk'⟩);go_roundw
    case rel=>exact ⟨k+1,by omega,by go_num,HK.out.trans hk',fun j hj hjk=>by
     by_cases e:j=k
     ·subst e;exact HQ.out
     ·exact HR.out j hj (by omega)⟩
    case measure=>simp [intOf];omega
  ·go_wp2;go_ret;exact ⟨ret_int (by rw [idxP_at p xs 0 xs.length fun j hj _=>HR.out j hj (by omega)];simp [idxP]),HK.out⟩
end Go.Proofs.YtpkocnpamcchcaaGreatDoor
namespace Go.Proofs.YtpkocnpamcchcaaGreatDoor
def okB(b:Nat):Bool:=!((decide (b<97)||decide (122<b))&&(decide (b<48)||decide (57<b)) && !(decide (b=95)))
structure NameP(s:ByteArray):Prop where
 ok:∀ i,(h:i<s.size)→okB (s[i]'h).toNat=true
 lo:1≤s.size
 hi:s.size≤64
structure MayP(l:List Col):Prop where
 name:∀ i,(h:i<l.length)→NameP l[i].name
 kind:∀ i,(h:i<l.length)→1≤l[i].kind∧l[i].kind≤3
 one:∀ i k,(h:i<l.length)→(hk:k<i)→(l[k]'(by omega)).name.toList≠l[i].name.toList
 lo:1≤l.length
 hi:l.length≤256
def dimP(l:List Col)(i:Int):Bool:=match i with
 | .ofNat k=>match l[k]? with|some c=>c.kind==1||c.kind==2|none=>false
 | .negSucc _=>false
structure FlagP(l:List Col)(f:List Bool):Prop where
 len:f.length=0∨f.length=l.length
 ok:∀ i,f.getD i false=true→dimP l (i:Int)=true
structure FitsP(l:List Col)(s:Int)(v r:List Bool)(sp:List Int)(leaf:Int):Prop where
 may:MayP l
 sort:s= -1∨dimP l s=true
 inv:FlagP l v
 rng:FlagP l r
 split:∀ i,(h:i<sp.length)→dimP l sp[i]=true
 one:∀ i k,(h:i<sp.length)→(hk:k<i)→sp[k]'(by omega)≠sp[i]
 few:sp.length≤8
 lo:1≤leaf
 hi:leaf≤1000000
theorem idxP_first{α:Type}(p:α→Bool):∀ (xs:List α) (i k:Nat) (h:k<xs.length),p xs[k]=true→(∀ j,(hj:j<k)→p (xs[j]'(by omega))=false)→idxP p xs i=((i+k:Nat):Int)
 | x :: r,i,0,_,h,_=>by simp [idxP] at h ⊢;simp [h]
 | x :: r,i,k+1,hk,h,hf=>by
   have h0:=hf 0 (by omega);simp only [List.getElem_cons_zero] at h0;have:=idxP_first p r (i+1) k (by simpa using hk) (by simpa using h) fun j hj=>by simpa using hf (j+1) (by omega)
   simp only [idxP,h0,Bool.false_eq_true,if_false,this]
   congr 1;omega
theorem idxP_le{α:Type}(p:α→Bool):∀ (xs:List α) (i k:Nat) (h:k<xs.length),p xs[k]=true→idxP p xs i≤((i+k:Nat):Int)
 | x :: r,i,0,_,h=>by simp [idxP] at h ⊢;simp [h]
 | x :: r,i,k+1,hk,h=>by
   have:=idxP_le p r (i+1) k (by simpa using hk) (by simpa using h);simp only [idxP]
   split<;>omega
theorem find_first(l:List Col)(i:Nat)(h:i<l.length):idxP (isCol l[i].name) l 0=(i:Int)↔∀ k,(hk:k<i)→(l[k]'(by omega)).name.toList≠l[i].name.toList:=by
 constructor
 ·intro he k hk heq;have:=idxP_le (isCol l[i].name) l 0 k (by omega) (by simp [isCol,heq]);omega
 ·intro hall;have:=idxP_first (isCol l[i].name) l 0 i h (by simp [isCol]) fun j hj=>by simpa [isCol] using hall j hj
  simpa using this
def metB(l:List Col):Nat→Nat
 | 0=>0
 | k+1=>metB l k+if dimP l (k:Int) then 0 else 1
end Go.Proofs.YtpkocnpamcchcaaGreatDoor
namespace Go.Proofs.YtpkocnpamcchcaaGreatDoor
open Go.RowKit Go.Zone Go.Shelf
attribute [local go_sem] zone stepZ fill lookFs goes goesUpon dropFs cell_gro frozen_gro size_gro lt_add drew_gro tape_gro keep_refl
attribute [local go_sem] lt_add2 lt_add3 lt_add4 lt_add5 lt_add6 lt_add7 lt_add8 lt_add9 lt_add10 lt_add11 lt_add12
noncomputable def pB(p:Prop):Bool:=@decide p (Classical.propDecidable p)
theorem pB_yes{p:Prop}(h:p):pB p=true:=by unfold pB;exact @decide_eq_true _ (Classical.propDecidable p) h
theorem pB_no{p:Prop}(h:¬ p):pB p=false:=by unfold pB;exact @decide_eq_false _ (Classical.propDecidable p) h
theorem pB_iff{p:Prop}:pB p=true↔p:=by unfold pB;exact @decide_eq_true_iff _ (Classical.propDecidable p)
theorem okB_no{n:Nat}(h:128≤n):okB n=false:=by unfold okB;simp;omega
theorem okN(s:ByteArray)(pos:Nat)(h:pos<s.size):okB (Utf8.decode s pos).1=okB (s[pos]'h).toNat∧(okB (Utf8.decode s pos).1=true→(Utf8.decode s pos).2=1)∧1≤(Utf8.decode s pos).2:=by
 by_cases ha:(s[pos]'h).toNat<128
 ·rw [decode_ascii s pos h ha];exact ⟨rfl,fun _=>rfl,Nat.le_refl _⟩
 ·have hd:=decode_high s pos h (by omega);have h1:=okB_no hd.1;refine ⟨by rw [h1,okB_no (by omega)],fun h=>?_,hd.2⟩;rw [h1] at h
  cases h
theorem badN{s:ByteArray}{pos r k:Nat}(_:∀ i,(h:i<s.size)→i<pos→okB (s[i]'h).toNat=true)(h:pos<s.size)(hr:okB r=okB (s[pos]'h).toNat∧(okB r=true→k=1)∧1≤k)(hb:okB r=false):¬ NameP s:=fun hn=>by
 have:=hn.ok pos h;rw [← hr.1,hb] at this
 cases this
theorem okB_spec(r:Nat):okB r=true↔(97≤r∧r≤122)∨(48≤r∧r≤57)∨r=95:=by
 unfold okB;simp;omega
theorem goodN{s:ByteArray}{pos r k:Nat}(H:∀ i,(h:i<s.size)→i<pos→okB (s[i]'h).toNat=true)(h:pos<s.size)(hr:okB r=okB (s[pos]'h).toNat∧(okB r=true→k=1)∧1≤k)(hb:okB r=true):∀ i,(h:i<s.size)→i<pos+k→okB (s[i]'h).toNat=true:=fun i hi hk=>by
 rw [hr.2.1 hb] at hk
 by_cases e:i=pos
 ·subst e;rw [← hr.1,hb]
 ·exact H i hi (by omega)
theorem isName_any(s:ByteArray)(w:World)(hz:s.size≤140737488355328):Calls Tryz.prog 148 #[.string s] w fun e w'=>e=.returned (.bool (pB (NameP s)))∧Keep w w':=by
 go_enter Tryz.func148,Tryz.ntmps148;go_wp2;go_loopw [4] (fun _ wr=>∃ pos:Nat,wr=w.iter s pos∧Hid (∀ i,(h:i<s.size)→i<pos→okB (s[i]'h).toNat=true)) (fun _ wr=>s.size-wr.iterPos w.heap.size)
 case atStart=>exact ⟨0,rfl,fun i h hi=>absurd hi (Nat.not_lt_zero _)⟩
 case round =>
  obtain ⟨pos,rfl,HP⟩:=hrel
  by_cases hp:pos<s.size
  ·have hnx:=fun ty=>run_next_any (P:=Tryz.prog) w s pos ty hp;have HR:=lh (okN s pos hp);generalize Utf8.decode s pos=d at hnx HR ⊢;obtain ⟨r,k⟩:=d;simp only at hnx HR;go_wp2
   all_goals first
   | (have hb:okB r=false:=by
       rw [Bool.eq_false_iff,ne_eq,okB_spec]
       try simp only [bne_iff_ne,ne_eq] at *
       omega
      go_ret;exact ⟨ret_bool (pB_no (badN HP.out hp HR.out hb)).symm,(by repeat first|exact kp0|apply kp1|apply kp2|apply kp3|apply kp4)⟩)
   | (have hb:okB r=true:=by
       rw [okB_spec]
       try simp only [bne_eq_false_iff_eq] at *
       omega
      go_roundw
      case rel=>exact ⟨pos+k,rfl,goodN HP.out hp HR.out hb⟩
      case measure =>
        have:=HR.out.2.2;simp;omega)
  ·have hnx:=fun ty=>run_next_end (P:=Tryz.prog) w s pos ty hp;go_wp2
   ·go_ret;exact ⟨by
     by_cases h64:(s.size:Int)≤64
     ·rw [pB_yes ⟨fun i h=>HP.out i h (by omega),by omega,by omega⟩];simp [h64]
     ·rw [pB_no fun hn=>h64 (by have:=hn.hi;omega)];simp [h64],(by repeat first|exact kp0|apply kp1|apply kp2|apply kp3|apply kp4)⟩
   ·go_ret;exact ⟨ret_bool (pB_no fun hn=>by have:=hn.lo;omega).symm,(by repeat first|exact kp0|apply kp1|apply kp2|apply kp3|apply kp4)⟩
end Go.Proofs.YtpkocnpamcchcaaGreatDoor
