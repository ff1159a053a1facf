/- Parts of the proof. -/
import Derived.Deep.Grids
import Derived.Lib.Strings
import Derived.Sort.Statements
import Derived.Shelf.SlSortCmp.Insertion
import Derived.Shelf.SlGeneric
import Derived.Shelf.SlSortCmp.NoneTotal
import Derived.Ground.SlsfProg
import Derived.StillTailTactics
import Derived.Test.YtpkocnpamcchcaaGreatDoorK03
set_option maxRecDepth 100000
set_option maxHeartbeats 4000000
set_option linter.unusedSimpArgs false
set_option linter.unusedVariables false
set_option linter.unnecessarySimpa false
namespace Go.Proofs.YtpkocnpamcchcaaGreatDoor
open Go.RowKit Go.Zone Go.ChangeShapes Go.WideShapes Go.Deep Go.Joins Go.ChangeMaps
section
variable {H:Type} {enc:TypeId × Value→H} {w:World} {held:Bool}
theorem weights_all{P:Program}{e:TypeId}{n:Nat}:∀ {l:List (DataW H)} {d:DataW H},d∈l→n∈d.weights P e→n∈DataW.weightsAll P e l
 | x :: r,d,hd,hn=>by
   simp only [DataW.weightsAll,List.mem_append]
   rcases List.mem_cons.1 hd with rfl|hd
   ·exact .inl hn
   ·exact .inr (weights_all hd hn)
def colTest(P:Program)(t:TypeId):Bool:=match P.underlying t with
 | some (.struct ⟨[f0,f1]⟩)=>oneCellFields P #[f0,f1]&&(match P.underlying f0.type,P.underlying f1.type with|some .string,some (.int .u8)=>true|_,_=>false)
 | _=>false
theorem u_col:∃ f0 f1,Tryz.prog.underlying 53=some (.struct #[f0,f1])∧oneCellFields Tryz.prog #[f0,f1]=true∧Tryz.prog.underlying f0.type=some .string∧Tryz.prog.underlying f1.type=some (.int .u8):=by
 have h:colTest Tryz.prog 53=true:=by kernel_rfl
 unfold colTest at h
 split at h
 ·rename_i f0 f1 hs;rw [Bool.and_eq_true] at h;obtain ⟨h1,h2⟩:=h
  split at h2
  ·rename_i a b;exact ⟨f0,f1,hs,h1,a,b⟩
  ·cases h2
 ·cases h
theorem u_cols:Tryz.prog.underlying 22=some (.slice 53):=by kernel_rfl
theorem c_col:Tryz.prog.cellsOf 53=2:=by kernel_rfl
theorem u_ints:Tryz.prog.underlying 24=some (.slice 3):=by kernel_rfl
theorem u_bools:Tryz.prog.underlying 23=some (.slice 4):=by kernel_rfl
theorem c_int:Tryz.prog.cellsOf 3=1:=by kernel_rfl
theorem c_bool:Tryz.prog.cellsOf 4=1:=by kernel_rfl
theorem open_cols{b0:Nat}{r:Reach}{v:Value}{d:DataW H}{ps:List MemPlace}(hv:Value.okWide Tryz.prog w r b0 22 v)(h:DataW.Trod enc Tryz.prog w 0 (fun _=>true) held 22 v d ps)
 (hz:∀ n∈d.weights Tryz.prog 22,n≤reachBytes) :
 ∃ A c xs,v=.slice A xs.length c∧Sl w 2 Col.cells A c xs∧∀ x∈xs,x.name.size≤140737488355328:=by
 obtain ⟨f0,f1,hs,hone,t0,t1⟩:=u_col;have hrb:=reachBytes_lt;obtain ⟨fuel,hf⟩:=h;have hcs:v.cells.toList=[v]:=by
  simp only [Value.okWide,u_cols] at hv
  cases v<;>simp_all [Cell.okWide,Cell.ok,u_cols,Value.cells]
 rcases open_slice_fields u_cols hs hone c_col hf with ⟨h0,_⟩ | ⟨a,len,cap,m,D,Pl,h0,hb,hl,hm,hmm,hx,hi⟩
 ·simp only [hcs,List.cons.injEq,and_true] at h0;exact ⟨none,0,[],h0,Sl.nil_ _ (by omega),fun _ h=>by cases h⟩
 ·simp only [hcs,List.cons.injEq,and_true] at h0;simp only [Prod.mk.injEq] at hx;have hw1:∀ i,i<len→∀ n∈(D i).weights Tryz.prog 53,n≤reachBytes:=fun i hi n hn=>hz n (by
   rw [hx.1];simp only [DataW.weights,u_cols,List.mem_cons,List.mem_append];exact .inr (.inl (weights_all (List.mem_map.2 ⟨i,List.mem_range.2 hi,rfl⟩) hn)))
  have hw2:len*Tryz.prog.bytesOf 53≤reachBytes:=by
   have:=hz ((len+(m-len))*Tryz.prog.bytesOf 53) (by rw [hx.1];simp [DataW.weights,u_cols]);exact Nat.le_trans (Nat.mul_le_mul_right _ (by omega)) this
  rw [show Tryz.prog.bytesOf 53=24 by kernel_rfl] at hw2;obtain ⟨xs,hxl,hxs⟩:=choose_list (Q:=fun i (x:Col)=>x.name.size≤140737488355328∧w.cell? (a.add (i*2))=some (.string x.name)∧w.cell? (a.add (i*2+1))=some (.int .u8 x.kind)) len fun i hil=>by
   obtain ⟨ys,n,hD,_,hyl,hff⟩:=hi i (by rw [hmm];split<;>omega);obtain ⟨v0,y0,c0,e0,r0⟩:=hff 0 f0 rfl;obtain ⟨v1,y1,c1,e1,r1⟩:=hff 1 f1 rfl;obtain ⟨s,g0,gd,ws⟩:=DataW.trod_string t0 r0;obtain ⟨k,g1,_,wk⟩:=DataW.trod_int t1 r1
   cases g0;cases g1
   refine ⟨⟨s,k⟩,?_,c0,c1⟩
   match ys,hyl,e0,e1 with
   | [z0,z1],_,e0,e1 =>
     cases e0;cases e1
     have h2:=hw1 i hil s.data.toList.length (by
      rw [hD,gd];simp [DataW.weights,hs,DataW.weightsEach])
     have h3:s.data.toList.length=s.size:=by rw [Lib.size_eq]
     simp only;omega
  subst hxl;refine ⟨some a,cap,xs,h0,⟨hl,by unfold maxLen at hm;omega,by omega,fun i hil=>?_⟩,fun x hx=>?_⟩
  ·obtain ⟨_,c0,c1⟩:=hxs i hil;have hsp:a.spot=none:=by
    obtain ⟨_,d0,_⟩:=hxs 0 (by omega);simp only [Nat.zero_mul,Addr.add,if_true] at d0;unfold World.cell? at d0
    split at d0
    ·split at d0
     ·cases d0
     ·rename_i h;simpa using h
    ·cases d0
   have hadd:∀ n,a.add n=⟨a.block,a.off+n,none⟩:=fun n=>by
    obtain ⟨ab,ao,asp⟩:=a;simp only at hsp;subst hsp;unfold Addr.add
    split
    ·rename_i h;subst h;rfl
    ·rfl
   rw [hadd] at c0 c1;refine ⟨a.block,a.off,by obtain ⟨ab,ao,asp⟩:=a;simp only at hsp;subst hsp;rfl,fun j u hu=>?_⟩
   match j,hu with
   | 0,hu=>cases hu;exact c0
   | 1,hu=>cases hu;exact c1
  ·obtain ⟨i,hil,rfl⟩:=List.getElem_of_mem hx;exact (hxs i hil).1
theorem sl_ints{v:Value}{fuel:Nat}{x:DataW H × List MemPlace}(hf:DataW.trod enc Tryz.prog w 0 (fun _=>true) held fuel 24 [v]=some x)(hz:∀ n∈x.1.weights Tryz.prog 24,n≤reachBytes) :
 ∃ A c xs,v=.slice A xs.length c∧Sl w 1 i64V A c xs:=by
 have hrb:=reachBytes_lt
 rcases open_ints u_ints u_int c_int hf with ⟨h0,_⟩ | ⟨a,len,cap,zs,h0,_,hl,hm,hzl,hx,hcell,hwz⟩
 ·simp only [List.cons.injEq,and_true] at h0;exact ⟨none,0,[],h0,Sl.nil_ _ (by omega)⟩
 ·simp only [List.cons.injEq,and_true] at h0;simp only [if_true] at hzl;subst hx;have hz':=hz _ (by simp only [DataW.weights,u_ints];exact List.mem_cons_self);rw [show Tryz.prog.bytesOf 3=8 by kernel_rfl] at hz';simp only [lits,List.length_map,List.length_take,List.length_drop] at hz';have hbl:(zs.take len).length=len:=by simp;omega
  refine ⟨some a,cap,zs.take len,by rw [hbl];exact h0,⟨by rw [hbl];exact hl,by unfold maxLen at hm;omega,by rw [hbl];omega,fun i hi=>?_⟩⟩;rw [hbl] at hi;have c0:=hcell i (by omega);obtain ⟨ab,ao,spot⟩:=a;have hspot:spot=none:=by simpa [Addr.add] using World.cell?_spot (hcell 0 (by omega))
  subst hspot;refine ⟨ab,ao,rfl,fun j u hu=>?_⟩
  match j,hu with
  | 0,hu =>
    cases hu
    rw [Addr.add_lit] at c0;rw [Nat.mul_one,Nat.add_zero,c0];simp [List.getD,show i<zs.length by omega]
theorem sl_bools{v:Value}{fuel:Nat}{x:DataW H × List MemPlace}(hf:DataW.trod enc Tryz.prog w 0 (fun _=>true) held fuel 23 [v]=some x)(hz:∀ n∈x.1.weights Tryz.prog 23,n≤reachBytes) :
 ∃ A c xs,v=.slice A xs.length c∧Sl w 1 flV A c xs:=by
 have hrb:=reachBytes_lt
 rcases open_bools u_bools u_bool c_bool hf with ⟨h0,_⟩ | ⟨a,len,cap,B,h0,_,hl,hm,hx,hcell⟩
 ·simp only [List.cons.injEq,and_true] at h0;exact ⟨none,0,[],h0,Sl.nil_ _ (by omega)⟩
 ·simp only [List.cons.injEq,and_true] at h0;subst hx;have hz':=hz ((len+(cap-len))*Tryz.prog.bytesOf 4) (by simp [DataW.weights,u_bools,boolRow]);rw [show Tryz.prog.bytesOf 4=1 by kernel_rfl] at hz';have hbl:((List.range len).map B).length=len:=by simp
  refine ⟨some a,cap,(List.range len).map B,by rw [hbl];exact h0,⟨by rw [hbl];exact hl,by unfold maxLen at hm;omega,by rw [hbl];omega,fun i hi=>?_⟩⟩;rw [hbl] at hi;have c0:=hcell i (by omega);obtain ⟨ab,ao,spot⟩:=a;have hspot:spot=none:=by simpa [Addr.add] using World.cell?_spot (hcell 0 (by omega))
  subst hspot;refine ⟨ab,ao,rfl,fun j u hu=>?_⟩
  match j,hu with
  | 0,hu =>
    cases hu
    rw [Addr.add_lit] at c0;rw [Nat.mul_one,Nat.add_zero,c0];simp
def cfgTest(P:Program)(t ti tb:TypeId):Bool:=match P.underlying t with
 | some (.struct ⟨[f0,f1,f2,f3,f4]⟩)=>oneCellFields P #[f0,f1,f2,f3,f4]&&(f1.type==tb&&(f2.type==tb&&(f3.type==ti&&(match P.underlying f0.type,P.underlying f4.type with|some (.int .i64),some (.int .i64)=>true|_,_=>false))))
 | _=>false
theorem u_cfg:∃ f0 f1 f2 f3 f4,Tryz.prog.underlying 26=some (.struct #[f0,f1,f2,f3,f4])∧oneCellFields Tryz.prog #[f0,f1,f2,f3,f4]=true∧f1.type=23∧f2.type=23∧f3.type=24∧Tryz.prog.underlying f0.type=some (.int .i64)∧Tryz.prog.underlying f4.type=some (.int .i64):=by
 have h:cfgTest Tryz.prog 26 24 23=true:=by kernel_rfl
 unfold cfgTest at h
 split at h
 ·rename_i f0 f1 f2 f3 f4 hs;rw [Bool.and_eq_true,Bool.and_eq_true,Bool.and_eq_true,Bool.and_eq_true,beq_iff_eq,beq_iff_eq,beq_iff_eq] at h;obtain ⟨h1,e1,e2,e3,h2⟩:=h
  split at h2
  ·rename_i a b;exact ⟨f0,f1,f2,f3,f4,hs,h1,e1,e2,e3,a,b⟩
  ·cases h2
 ·cases h
theorem c_cfg:Tryz.prog.cellsOf 26=5:=by kernel_rfl
theorem five'{α:Type}{l:List α}(h:l.length=5):∃ a b c d e,l=[a,b,c,d,e]:=by
 match l,h with
 | [a,b,c,d,e],_=>exact ⟨a,b,c,d,e,rfl⟩
theorem open_cfg{b0:Nat}{r:Reach}{v:Value}{d:DataW H}{ps:List MemPlace}(hv:Value.okWide Tryz.prog w r b0 26 v)(h:DataW.Trod enc Tryz.prog w 0 (fun _=>true) held 26 v d ps)
 (hz:∀ n∈d.weights Tryz.prog 26,n≤reachBytes):∃ c:Cfg,v=c.v∧CfgAt w c:=by
 obtain ⟨f0,f1,f2,f3,f4,hs,hone,k1,k2,k3,t0,t4⟩:=u_cfg;obtain ⟨cs,rfl,hsz⟩:=okWide_struct hs hv;obtain ⟨fuel,hf0⟩:=h;obtain ⟨xs,n',hn',hx,hlen,hxl,hf⟩:=DataW.trod_struct hs hf0;rw [c_cfg] at hlen;obtain ⟨l⟩:=cs;obtain ⟨v0,v1,v2,v3,v4,rfl⟩:=five' (l:=l) hlen;obtain ⟨y0,y1,y2,y3,y4,rfl⟩:=five' hxl;simp only [Prod.mk.injEq,List.map_cons,List.map_nil] at hx;obtain ⟨rfl,_⟩:=hx;have g0:=hf 0 f0 rfl;have g1:=hf 1 f1 rfl;have g2:=hf 2 f2 rfl;have g3:=hf 3 f3 rfl;have g4:=hf 4 f4 rfl;rw [(hone_of hone 0 f0 rfl).1,(hone_of hone 0 f0 rfl).2] at g0;rw [(hone_of hone 1 f1 rfl).1,(hone_of hone 1 f1 rfl).2,k1] at g1;rw [(hone_of hone 2 f2 rfl).1,(hone_of hone 2 f2 rfl).2,k2] at g2;rw [(hone_of hone 3 f3 rfl).1,(hone_of hone 3 f3 rfl).2,k3] at g3;rw [(hone_of hone 4 f4 rfl).1,(hone_of hone 4 f4 rfl).2] at g4;simp only [Value.cells,List.drop_succ_cons,List.drop_zero,List.take_succ_cons,List.take_zero,List.getElem?_cons_zero,List.getElem?_cons_succ] at g0 g1 g2 g3 g4;obtain ⟨s,e0,_,_⟩:=DataW.trod_int t0 g0;obtain ⟨lf,e4,_,_⟩:=DataW.trod_int t4 g4;simp only [List.cons.injEq,and_true] at e0 e4;subst e0;subst e4;have hw:∀ n,n∈y1.1.weights Tryz.prog 23∨n∈y2.1.weights Tryz.prog 23∨n∈y3.1.weights Tryz.prog 24→n≤reachBytes:=fun n hn=>hz n (by
  simp only [DataW.weights,hs,List.map_cons,List.map_nil,DataW.weightsEach,List.mem_append,k1,k2,k3]
  rcases hn with h|h|h<;>simp [h])
 obtain ⟨iA,ic,iv,rfl,hi⟩:=sl_bools g1 fun n hn=>hw n (.inl hn);obtain ⟨rA,rc,rv,rfl,hr⟩:=sl_bools g2 fun n hn=>hw n (.inr (.inl hn));obtain ⟨sA,sc,sv,rfl,hsv⟩:=sl_ints g3 fun n hn=>hw n (.inr (.inr hn));exact ⟨⟨s,iA,ic,iv,rA,rc,rv,sA,sc,sv,lf⟩,rfl,⟨hi,hr,hsv⟩⟩
end
end Go.Proofs.YtpkocnpamcchcaaGreatDoor
namespace Go.Proofs.YtpkocnpamcchcaaGreatDoor
open Go.RowKit Go.Zone Go.Shelf
attribute [local go_sem] zone stepZ fill lookFs goes goesUpon dropFs cell_gro frozen_gro size_gro lt_add drew_gro tape_gro keep_refl
def lessV(x y:Val):Bool:=if x.k != y.k then decide (x.k<y.k) else if x.n != y.n then decide (x.n<y.n) else Op.bytesLess x.s.toList y.s.toList
theorem bytesLess_len:∀ (l m:List UInt8),(∀ j,(h1:j<l.length)→(h2:j<m.length)→l[j]=m[j])→Op.bytesLess l m=decide (l.length<m.length)
 | [],[],_=>by simp [Op.bytesLess]
 | [],y :: m,_=>by simp [Op.bytesLess]
 | x :: l,[],_=>by simp [Op.bytesLess]
 | x :: l,y :: m,h=>by
   have h0:=h 0 (by simp) (by simp);simp only [List.getElem_cons_zero] at h0;subst h0;have ih:=bytesLess_len l m fun j h1 h2=>by have:=h (j+1) (by simpa using h1) (by simpa using h2);simpa using this
   simp [Op.bytesLess,ih]
theorem bytesLess_at:∀ (l m:List UInt8) (k:Nat) (h1:k<l.length) (h2:k<m.length),(∀ j,j<k→(h1:j<l.length)→(h2:j<m.length)→l[j]=m[j])→l[k]≠m[k]→Op.bytesLess l m=decide (l[k]<m[k])
 | [],_,k,h1,_,_,_=>by simp at h1
 | _ :: _,[],k,_,h2,_,_=>by simp at h2
 | x :: l,y :: m,0,_,_,_,hne=>by
   simp only [List.getElem_cons_zero] at hne ⊢;simp [Op.bytesLess,hne]
 | x :: l,y :: m,k+1,h1,h2,h,hne=>by
   have h0:=h 0 (by omega) (by simp) (by simp);simp only [List.getElem_cons_zero] at h0;subst h0;have ih:=bytesLess_at l m k (by simpa using h1) (by simpa using h2) (fun j hj h1 h2=>by have:=h (j+1) (by omega) (by simpa using h1) (by simpa using h2);simpa using this) (by simpa using hne);simp [Op.bytesLess,ih]
theorem size_toList(s:ByteArray):s.toList.length=s.size:=by rw [Lib.toList_data];simp
theorem toList_get(s:ByteArray)(i:Nat)(h:i<s.toList.length):s.toList[i]=s[i]'(by rw [size_toList] at h;exact h):=by
 simp only [Lib.toList_data];simp;rfl
theorem less_any(x y:Val)(w:World)(hx:x.s.size≤maxLen)(hy:y.s.size≤maxLen):Calls Tryz.prog 41 #[x.v,y.v] w fun e w'=>e=.returned (.bool (lessV x y))∧Keep w w':=by
 obtain ⟨k,n,s⟩:=x;obtain ⟨k',n',s'⟩:=y;simp only [Val.v];simp only at hx hy;unfold maxLen at hx hy
 by_cases h1:k=k'
 ·subst h1
  by_cases h2:n=n'
  ·subst h2;simp only [lessV,bne_self_eq_false,Bool.false_eq_true,if_false];go_enter Tryz.func41,Tryz.ntmps41;go_wp2;go_loopw [5] (fun i wr=>∃ j:Nat,j≤s.size∧j≤s'.size∧i=.int .i64 j∧w.heap.size+1<wr.heap.size∧wr.cell? ⟨w.heap.size,2,none⟩=some (.string s)∧wr.cell? ⟨w.heap.size+1,2,none⟩=some (.string s')∧Hid (Keep w wr) ∧
    Hid (∀ i,i<j→(h1:i<s.size)→(h2:i<s'.size)→s[i]=s'[i])) (fun i _=>s.size-(intOf i).toNat)
   case atStart=>exact ⟨0,Nat.zero_le _,Nat.zero_le _,rfl,by simp,by simp [go_sem],by simp [go_sem],(by repeat first|exact kp0|apply kp1|apply kp2|apply kp3|apply kp4),fun i hi=>absurd hi (Nat.not_lt_zero _)⟩
   case round =>
    obtain ⟨j,hj,hj',rfl,hz,hc,hc',HK,HR⟩:=hrel;have hz':w.heap.size<wr.heap.size:=by omega
    by_cases hlt:j<s.size∧j<s'.size
    ·obtain ⟨hl,hl'⟩:=hlt
     by_cases he:s[j]=s'[j]
     ·have hb:(((s[j].toNat:Nat):Int) != (s'[j].toNat:Int))=false:=by rw [he];simp
      have HE:=lh he;clear he;go_wp2
      first|refine Zone.wp_region_all_gro (by kernel_rfl) (by kernel_rfl) ?_|refine Zone.wp_region_all (by kernel_rfl) (by kernel_rfl) ?_
      repeat
       refine Zone.wpZ_step (fun K hK=>?_);go_simp
       first
       | (refine hK _ _ ?_;clear hK K)
       | (apply Exists.intro
          refine ⟨fun p=>?_,hK _ _ ?_⟩
          (fail)
          clear hK K)
      refine Zone.wpZ_nil ?_;intro p;simp only [Zone.fill];go_wp2;go_roundw
      case rel=>exact ⟨j+1,by omega,by omega,by go_num,by simp [Zone.size_gro];omega,by simp [Zone.cell_gro,hz',hc],by simp [Zone.cell_gro,hz,hc'],HK.out.gro p,fun i hi h1 h2=>by
       by_cases e:i=j
       ·subst e;exact HE.out
       ·exact HR.out i (by omega) h1 h2⟩
      case measure=>simp [intOf];omega
     ·have hb:(((s[j].toNat:Nat):Int) != (s'[j].toNat:Int))=true:=by
       simp only [bne_iff_ne,ne_eq,Int.natCast_inj];exact fun e=>he (UInt8.toNat_inj.1 e)
      have HV:Hid (Op.bytesLess s.toList s'.toList=decide (s[j].toNat<s'[j].toNat)):=by
       have h:=bytesLess_at s.toList s'.toList j (by rw [size_toList];exact hl) (by rw [size_toList];exact hl') (fun i hi h1 h2=>by
        have:=HR.out i hi (by rw [size_toList] at h1;exact h1) (by rw [size_toList] at h2;exact h2)
        simpa [toList_get] using this) (by simpa [toList_get] using he)
       show _=_;rw [h];simp [toList_get,UInt8.lt_iff_toNat_lt]
      clear he;go_wp2
      first|refine Zone.wp_region_all_gro (by kernel_rfl) (by kernel_rfl) ?_|refine Zone.wp_region_all (by kernel_rfl) (by kernel_rfl) ?_
      repeat
       refine Zone.wpZ_step (fun K hK=>?_);go_simp
       first
       | (refine hK _ _ ?_;clear hK K)
       | (apply Exists.intro
          refine ⟨fun p=>?_,hK _ _ ?_⟩
          (fail)
          clear hK K)
      refine Zone.wpZ_nil ?_;intro p;simp only [Zone.fill];go_wp2
      first|refine Zone.wp_region_all_gro (by kernel_rfl) (by kernel_rfl) ?_|refine Zone.wp_region_all (by kernel_rfl) (by kernel_rfl) ?_
      repeat
       refine Zone.wpZ_step (fun K hK=>?_);go_simp
       first
       | (refine hK _ _ ?_;clear hK K)
       | (apply Exists.intro
          refine ⟨fun p=>?_,hK _ _ ?_⟩
          (fail)
          clear hK K)
      refine Zone.wpZ_nil ?_;intro q;simp only [Zone.fill];go_wp2;go_ret;exact ⟨ret_bool HV.out.symm,HK.out.gro _⟩
    ·have HV:Hid (Op.bytesLess s.toList s'.toList=decide (s.size<s'.size)):=by
         have h:=bytesLess_len s.toList s'.toList (fun i h1 h2=>by
          rw [size_toList] at h1 h2;have:=HR.out i (by omega) h1 h2
          simpa [toList_get] using this)
         show _=_;rw [h,size_toList,size_toList]
     by_cases hl:j<s.size
     all_goals
         go_wp2;go_ret;exact ⟨ret_bool HV.out.symm,HK.out⟩
  ·have hn:(n != n')=true:=by simpa using h2
   simp only [lessV,bne_self_eq_false,Bool.false_eq_true,if_false,hn,if_true];clear h2;go_enter Tryz.func41,Tryz.ntmps41;go_wp2;go_ret;exact ⟨rfl,(by repeat first|exact kp0|apply kp1|apply kp2|apply kp3|apply kp4)⟩
 ·have hn:(k != k')=true:=by simpa using h1
  simp only [lessV,hn,if_true];clear h1;go_enter Tryz.func41,Tryz.ntmps41;go_wp2;go_ret;exact ⟨rfl,(by repeat first|exact kp0|apply kp1|apply kp2|apply kp3|apply kp4)⟩
theorem info_val:(Tryz.prog.info? 72).map (fun i=>(i.zero,i.size,i.bytes))=some (some (.agg #[.int .u8 0,.int .i64 0,.string ByteArray.empty]),3,32):=by kernel_rfl
theorem elt_val:Elt Tryz.prog 56 72 3 32:=by
 obtain ⟨i,hi,h1,h2,h3⟩:=info_parts info_val;exact ⟨i,_,Tryz.underlying56,hi,h1,h2,h3,rfl,by decide,by decide⟩
theorem val_len(x:Val):x.cells.length=3:=rfl
theorem val_one(x:Val):∀ u∈x.cells,u.oneCell'=true:=by simp [Val.cells,Value.oneCell']
def eqC(k n k' n':Int)(s s':ByteArray):Bool:=k==k'&&n==n'&&s.toList==s'.toList
def eqV(x y:Val):Bool:=eqC x.k x.n y.k y.n x.s y.s
theorem held_val:Tryz.prog.stoodInHeld 72=false:=by kernel_rfl
theorem guard_val:Tryz.prog.eqGuardType Tryz.prog.depth 72=false:=by kernel_rfl
theorem run_eq_val(k n k' n':Int)(s s':ByteArray)(w:World):Sem.run Tryz.prog (binOp .eql 72 (.agg #[.int .u8 k,.int .i64 n,.string s]) (.agg #[.int .u8 k',.int .i64 n',.string s'])) w=.ok (.bool (eqC k n k' n' s s')) w:=by
 have h1:=held_val;have h3:=guard_val;go_simp;unfold eqC
 by_cases a:k=k'<;>by_cases b:n=n'<;>by_cases c:s.toList=s'.toList<;>simp [a,b,c]
theorem run_ne_val(k n k' n':Int)(s s':ByteArray)(w:World):Sem.run Tryz.prog (binOp .neq 72 (.agg #[.int .u8 k,.int .i64 n,.string s]) (.agg #[.int .u8 k',.int .i64 n',.string s'])) w=.ok (.bool (!eqC k n k' n' s s')) w:=by
 have h1:=held_val;have h3:=guard_val;go_simp;unfold eqC
 by_cases a:k=k'<;>by_cases b:n=n'<;>by_cases c:s.toList=s'.toList<;>simp [a,b,c]
theorem run_eqG_val(op:BinOp)(x y:Operand)(xs ys:Array Value)(w:World):(eqGuard op 72 x y (.agg xs) (.agg ys)).run Tryz.prog w=.ok () w:=run_eqGuard_agg w op 72 x y xs ys guard_val
attribute [local go_sem high] run_eq_val run_ne_val run_eqG_val
def stepPut(v:Val)(a:List Val × Bool)(x:Val):List Val × Bool:=if !a.2&&lessV v x then (a.1++[v]++[x],true) else (a.1++[x],a.2)
def putS(v:Val)(xs:List Val):List Val × Bool:=xs.foldl (stepPut v) ([],false)
def putV(xs:List Val)(v:Val):List Val:=if xs.any (fun x=>eqV x v) then xs else if (putS v xs).2 then (putS v xs).1 else (putS v xs).1++[v]
def Fresh(base:Nat)(A:Option Addr)(n:Nat):Prop:=∀ g off,A=some ⟨g,off,none⟩→0<n→base≤g
theorem fresh_own{α:Type}{w:World}{base b0:Nat}{e:TypeId}{k:Nat}{enc:α→List Value}{A:Option Addr}{n m c:Nat}{xs:List α}(h:Zone.Own w b0 e k enc (.slice A n c) xs)(hb:base≤b0):Fresh base A m:=fun g off hA _=>by
 subst hA;have:=(h.lt g rfl).1;omega
end Go.Proofs.YtpkocnpamcchcaaGreatDoor
namespace Go.Proofs.YtpkocnpamcchcaaGreatDoor
open Go.RowKit Go.Zone Go.Shelf Go.Sort
theorem bl_irrefl:∀ l,Op.bytesLess l l=false
 | []=>rfl
 | a :: l=>by simp [Op.bytesLess,bl_irrefl l]
theorem bl_trans:∀ l m n,Op.bytesLess l m=true→Op.bytesLess m n=true→Op.bytesLess l n=true
 | [],[],_,h,_=>by cases h
 | [],_ :: _,[],_,h=>by cases h
 | [],_ :: _,_ :: _,_,_=>rfl
 | _ :: _,[],_,h,_=>by cases h
 | _ :: _,_ :: _,[],_,h=>by cases h
 | a :: l,b :: m,c :: n,h1,h2=>by
   simp only [Op.bytesLess,Bool.or_eq_true,Bool.and_eq_true,decide_eq_true_eq,beq_iff_eq] at h1 h2 ⊢
   rcases h1 with h1 | ⟨rfl,h1⟩
   ·rcases h2 with h2 | ⟨rfl,h2⟩
    ·exact .inl (UInt8.lt_trans h1 h2)
    ·exact .inl h1
   ·rcases h2 with h2 | ⟨rfl,h2⟩
    ·exact .inl h2
    ·exact .inr ⟨rfl,bl_trans l m n h1 h2⟩
theorem bl_total:∀ l m,Op.bytesLess l m=false→Op.bytesLess m l=false→l=m
 | [],[],_,_=>rfl
 | [],_ :: _,h,_=>by cases h
 | _ :: _,[],_,h=>by cases h
 | a :: l,b :: m,h1,h2=>by
   simp only [Op.bytesLess,Bool.or_eq_false_iff,Bool.and_eq_false_iff,decide_eq_false_iff_not,beq_eq_false_iff_ne,ne_eq,UInt8.not_lt] at h1 h2;have:a=b:=UInt8.le_antisymm h2.1 h1.1;subst this
   rw [bl_total l m (by rcases h1.2 with h|h; · exact absurd rfl h
                        ·exact h) (by rcases h2.2 with h|h; · exact absurd rfl h
                                      ·exact h)]
theorem ba_ext{a b:ByteArray}(h:a.toList=b.toList):a=b:=by
 rw [Lib.toList_data,Lib.toList_data] at h
 cases a;cases b
 congr 1
 exact Array.ext' (by simpa using h)
theorem cmpS_lt(a b:ByteArray):cmpS a b<0↔Op.bytesLess a.toList b.toList=true:=by
 unfold cmpS
 cases Op.bytesLess a.toList b.toList<;>cases (a.toList==b.toList)<;>simp
theorem cmpS_eq(a b:ByteArray):cmpS a b=0↔a=b:=by
 unfold cmpS;constructor
 ·intro h
  cases h1:Op.bytesLess a.toList b.toList<;>cases h2:(a.toList==b.toList)<;>simp [h1,h2] at h
  exact ba_ext (by simpa using h2)
 ·rintro rfl;simp [bl_irrefl]
theorem cmpI_lt(a b:Int):cmpI a b<0↔a<b:=by unfold cmpI;(repeat' split)<;>omega
theorem cmpI_eq(a b:Int):cmpI a b=0↔a=b:=by unfold cmpI;(repeat' split)<;>omega
def LtV(x y:Val):Prop:=x.k<y.k∨(x.k=y.k∧(x.n<y.n∨(x.n=y.n∧Op.bytesLess x.s.toList y.s.toList=true)))
theorem cmpV_lt(x y:Val):cmpV x y<0↔LtV x y:=by
 unfold cmpV LtV;simp only [orL];have a:=cmpI_lt x.k y.k;have a':=cmpI_eq x.k y.k;have b:=cmpI_lt x.n y.n;have b':=cmpI_eq x.n y.n;have c:=cmpS_lt x.s y.s
 by_cases h1:cmpI x.k y.k=0
 ·have e1:=a'.1 h1;rw [if_pos h1]
  by_cases h2:cmpI x.n y.n=0
  ·have e2:=b'.1 h2;rw [if_pos h2]
   by_cases h3:cmpS x.s y.s=0
   ·rw [if_pos h3,e1,e2];have:¬ (Op.bytesLess x.s.toList y.s.toList=true):=fun h=>by have:=c.2 h;omega
    simp [this]
   ·rw [if_neg h3,c,e1,e2];simp
  ·rw [if_neg h2,b,e1];have:x.n≠y.n:=fun h=>h2 (b'.2 h);simp [this]
 ·rw [if_neg h1,a];have:x.k≠y.k:=fun h=>h1 (a'.2 h);simp [this]
theorem cmpV_eq(x y:Val):cmpV x y=0↔x=y:=by
 obtain ⟨k,n,s⟩:=x;obtain ⟨k',n',s'⟩:=y;unfold cmpV;simp only [orL,Val.mk.injEq];have a':=cmpI_eq k k';have b':=cmpI_eq n n';have c':=cmpS_eq s s'
 by_cases h1:cmpI k k'=0
 ·rw [if_pos h1]
  by_cases h2:cmpI n n'=0
  ·rw [if_pos h2]
   by_cases h3:cmpS s s'=0
   ·rw [if_pos h3];simp [a'.1 h1,b'.1 h2,c'.1 h3]
   ·rw [if_neg h3];exact ⟨fun h=>absurd h h3,fun h=>absurd (c'.2 h.2.2) h3⟩
  ·rw [if_neg h2];exact ⟨fun h=>absurd h h2,fun h=>absurd (b'.2 h.2.1) h2⟩
 ·rw [if_neg h1];exact ⟨fun h=>absurd h h1,fun h=>absurd (a'.2 h.1) h1⟩
theorem LtV.irrefl(x:Val):¬ LtV x x:=by
 unfold LtV;simp [bl_irrefl]
theorem LtV.trans{x y z:Val}(h:LtV x y)(k:LtV y z):LtV x z:=by
 unfold LtV at *
 rcases h with h | ⟨e,h⟩
 ·rcases k with k | ⟨e',k⟩
  ·exact .inl (by omega)
  ·exact .inl (by omega)
 ·rcases k with k | ⟨e',k⟩
  ·exact .inl (by omega)
  ·refine .inr ⟨by omega,?_⟩
   rcases h with h | ⟨e2,h⟩
   ·rcases k with k | ⟨e3,k⟩
    ·exact .inl (by omega)
    ·exact .inl (by omega)
   ·rcases k with k | ⟨e3,k⟩
    ·exact .inl (by omega)
    ·exact .inr ⟨by omega,bl_trans _ _ _ h k⟩
theorem LtV.tri(x y:Val):LtV x y∨x=y∨LtV y x:=by
 obtain ⟨k,n,s⟩:=x;obtain ⟨k',n',s'⟩:=y;unfold LtV;simp only [Val.mk.injEq]
 rcases Int.lt_trichotomy k k' with h|h|h
 ·exact .inl (.inl h)
 ·rcases Int.lt_trichotomy n n' with h2|h2|h2
  ·exact .inl (.inr ⟨h,.inl h2⟩)
  ·cases h3:Op.bytesLess s.toList s'.toList
   ·cases h4:Op.bytesLess s'.toList s.toList
    ·exact .inr (.inl ⟨h,h2,ba_ext (bl_total _ _ h3 h4)⟩)
    ·exact .inr (.inr (.inr ⟨h.symm,.inr ⟨h2.symm,rfl⟩⟩))
   ·exact .inl (.inr ⟨h,.inr ⟨h2,rfl⟩⟩)
  ·exact .inr (.inr (.inr ⟨h.symm,.inl h2⟩))
 ·exact .inr (.inr (.inl h))
theorem swoV:SWO (ltOf cmpV):=by
 refine ⟨fun x=>?_,fun x y z h k=>?_,fun x y z h k=>?_⟩
 ·simp only [ltOf,decide_eq_false_iff_not];rw [cmpV_lt];exact LtV.irrefl x
 ·simp only [ltOf,decide_eq_true_eq] at *;rw [cmpV_lt] at *;exact h.trans k
 ·simp only [ltOf,decide_eq_false_iff_not] at *;rw [cmpV_lt] at *;intro hxz
  rcases LtV.tri x y with h1|h1|h1
  ·exact h h1
  ·subst h1;exact k hxz
  ·exact k (h1.trans hxz)
theorem totV(x y:Val)(h:ltOf cmpV x y=false)(k:ltOf cmpV y x=false):x=y:=by
 simp only [ltOf,decide_eq_false_iff_not] at *;rw [cmpV_lt] at *
 rcases LtV.tri x y with h1|h1|h1
 ·exact absurd h1 h
 ·exact h1
 ·exact absurd h1 k
theorem lessV_iff(x y:Val):lessV x y=true↔LtV x y:=by
 unfold lessV LtV
 by_cases h1:x.k=y.k
 ·by_cases h2:x.n=y.n
  ·simp [h1,h2]
  ·simp [h1,h2]
 ·simp [h1]
theorem eqV_iff(x y:Val):eqV x y=true↔x=y:=by
 obtain ⟨k,n,s⟩:=x;obtain ⟨k',n',s'⟩:=y;simp only [eqV,eqC,Bool.and_eq_true,beq_iff_eq,Val.mk.injEq];constructor
 ·rintro ⟨⟨h1,h2⟩,h3⟩;exact ⟨h1,h2,ba_ext h3⟩
 ·rintro ⟨h1,h2,h3⟩;exact ⟨⟨h1,h2⟩,by rw [h3]⟩
end Go.Proofs.YtpkocnpamcchcaaGreatDoor
namespace Go.Proofs
open Go.Shelf
def Tryz.sortV_ren:Go.Shelf.Ren:=⟨fun|6=>117|15=>159|14=>158|28=>200|29=>163|20=>192|21=>193|22=>194|23=>195|24=>196|25=>197|26=>198|27=>199|46=>228|47=>229|48=>230|49=>231|50=>232|57=>267|n=>n,fun|22=>56|24=>72|25=>123|3=>3|39=>162|0=>0|53=>81|55=>47|4=>4|46=>261|45=>260|50=>135|5=>5|9=>9|66=>292|70=>296|76=>325|77=>326|n=>n,fun|n=>n⟩
theorem Tryz.sortV:Go.Proofs.SlLaysF0.n6 Tryz.prog Tryz.sortV_ren:={
 mixed:=by kernel_rfl
 f6:=⟨Tryz.f117.name,by decide,Tryz.func117.trans (congrArg some (by kernel_rfl))⟩
 f14:=⟨Tryz.f158.name,by decide,Tryz.func158.trans (congrArg some (by kernel_rfl))⟩
 f15:=Tryz.func159.trans (congrArg some (by kernel_rfl))
 f20:=⟨Tryz.f192.name,by decide,Tryz.func192.trans (congrArg some (by kernel_rfl))⟩
 f21:=⟨Tryz.f193.name,by decide,Tryz.func193.trans (congrArg some (by kernel_rfl))⟩
 f22:=⟨Tryz.f194.name,by decide,Tryz.func194.trans (congrArg some (by kernel_rfl))⟩
 f23:=⟨Tryz.f195.name,by decide,Tryz.func195.trans (congrArg some (by kernel_rfl))⟩
 f24:=⟨Tryz.f196.name,by decide,Tryz.func196.trans (congrArg some (by kernel_rfl))⟩
 f25:=⟨Tryz.f197.name,by decide,Tryz.func197.trans (congrArg some (by kernel_rfl))⟩
 f26:=⟨Tryz.f198.name,by decide,Tryz.func198.trans (congrArg some (by kernel_rfl))⟩
 f27:=⟨Tryz.f199.name,by decide,Tryz.func199.trans (congrArg some (by kernel_rfl))⟩
 f28:=Tryz.func200.trans (congrArg some (by kernel_rfl))
 f29:=Tryz.func163.trans (congrArg some (by kernel_rfl))
 f46:=⟨Tryz.f228.name,by decide,Tryz.func228.trans (congrArg some (by kernel_rfl))⟩
 f47:=Tryz.func229.trans (congrArg some (by kernel_rfl))
 f48:=Tryz.func230.trans (congrArg some (by kernel_rfl))
 f49:=⟨Tryz.f231.name,by decide,Tryz.func231.trans (congrArg some (by kernel_rfl))⟩
 f50:=⟨Tryz.f232.name,by decide,Tryz.func232.trans (congrArg some (by kernel_rfl))⟩
 f57:=⟨Tryz.f267.name,by decide,Tryz.func267.trans (congrArg some (by kernel_rfl))⟩
 t0:=Tryz.underlying0
 a0:=Tryz.isAgg0
 z0:=Tryz.sizeOf0
 v0:=Tryz.zeroValue0
 t3:=Tryz.underlying3
 a3:=Tryz.isAgg3
 z3:=Tryz.sizeOf3
 v3:=Tryz.zeroValue3
 t4:=Tryz.underlying4
 a4:=Tryz.isAgg4
 z4:=Tryz.sizeOf4
 v4:=Tryz.zeroValue4
 t5:=Tryz.underlying5
 a5:=Tryz.isAgg5
 z5:=Tryz.sizeOf5
 v5:=Tryz.zeroValue5
 t9:=Tryz.underlying9
 a9:=Tryz.isAgg9
 z9:=Tryz.sizeOf9
 v9:=Tryz.zeroValue9
 t22:=Tryz.underlying56
 a22:=Tryz.isAgg56
 z22:=Tryz.sizeOf56
 v22:=Tryz.zeroValue56
 t25:=Tryz.underlying123
 a25:=Tryz.isAgg123
 z25:=Tryz.sizeOf123
 v25:=Tryz.zeroValue123
 t39:=Tryz.underlying162
 a39:=Tryz.isAgg162
 z39:=Tryz.sizeOf162
 v39:=Tryz.zeroValue162
 t45:=Tryz.underlying260
 a45:=Tryz.isAgg260
 z45:=Tryz.sizeOf260
 v45:=Tryz.zeroValue260
 t46:=Tryz.underlying261
 a46:=Tryz.isAgg261
 z46:=Tryz.sizeOf261
 v46:=Tryz.zeroValue261
 t50:=Tryz.underlying135
 a50:=Tryz.isAgg135
 z50:=Tryz.sizeOf135
 v50:=Tryz.zeroValue135
 t53:=Tryz.underlying81
 a53:=Tryz.isAgg81
 z53:=Tryz.sizeOf81
 v53:=Tryz.zeroValue81
 t55:=Tryz.underlying47
 a55:=Tryz.isAgg47
 z55:=Tryz.sizeOf47
 v55:=Tryz.zeroValue47
 t66:=Tryz.underlying292
 a66:=Tryz.isAgg292
 z66:=Tryz.sizeOf292
 v66:=Tryz.zeroValue292
 t70:=Tryz.underlying296
 a70:=Tryz.isAgg296
 z70:=Tryz.sizeOf296
 v70:=Tryz.zeroValue296
 t76:=Tryz.underlying325
 a76:=Tryz.isAgg325
 z76:=Tryz.sizeOf325
 v76:=Tryz.zeroValue325
 t77:=Tryz.underlying326
 a77:=Tryz.isAgg326
 z77:=Tryz.sizeOf326
 v77:=Tryz.zeroValue326 }
end Go.Proofs
namespace Go.Proofs.YtpkocnpamcchcaaGreatDoor
open Go.RowKit Go.Zone Go.Shelf Go.Sort
attribute [local go_sem] zone stepZ fill lookFs goes goesUpon dropFs cell_gro frozen_gro size_gro lt_add drew_gro tape_gro keep_refl
theorem alloc3_grow(W:World)(a b c:Obj):(((W.alloc a).alloc b).alloc c).drew=grow (W.drewN 1) ((#[a]++#[b])++#[c]):=by
 simp only [alloc_eq_grow,grow_grow];rfl
theorem compare_grow(x y:Val)(W:World):Calls Tryz.prog 63 #[x.v,y.v] W fun e w'=>e=.returned (.int .i64 (cmpV x y))∧∃ q os',w'=grow (W.drewN q) os':=by
 obtain ⟨k,n,s⟩:=x;obtain ⟨k',n',s'⟩:=y;simp only [Val.v,cmpV];go_enter Tryz.func63,Tryz.ntmps63;go_wp2;refine wp_region_still_tail 15 (by kernel_rfl) (by kernel_rfl) ?_;simp only [List.take_succ_cons,List.take_zero,List.drop_succ_cons,List.drop_zero]
 change wpStill _ _ (World.drew _) (fun a'=>wpList _ _ _ _ a' (World.drew _)) _ _
 repeat still_step
 still_call ((cmp8 _ _ _).mono fun _ _ h=>⟨h.1,h.2.symm⟩)
 repeat still_step
 still_call ((cmp64 _ _ _).mono fun _ _ h=>⟨h.1,h.2.symm⟩)
 repeat still_step
 still_call ((cmpStr _ _ _).mono fun _ _ h=>⟨h.1,h.2.symm⟩)
 refine wpStill_nil ?_;go_wp2_with (go_at_call 105;refine (or_any _ 0 [cmpI k k',cmpI n n',cmpS s s'] 3 3 _ rfl (by omega) (fun i hi=>by match i,hi with|0,_=>simp [go_sem]|1,_=>simp [go_sem]|2,_=>simp [go_sem])).mono ?_;rintro e w' ⟨rfl,rfl⟩);go_ret;exact ⟨rfl,1,_,alloc3_grow W _ _ _⟩
theorem cmpLaysV(blk off size:Nat)(w:World):CmpLays Tryz.prog 63 #[] Val.cells 3 cmpV blk off size w :=
 fun _ _ _ _ x y=>compare_grow x y _
theorem aggV(w:World):(isAgg 72).run Tryz.prog w=.ok true w:=by kernel_rfl
theorem sizeV(w:World):(Go.sizeOf 72).run Tryz.prog w=.ok 3 w:=by kernel_rfl
def sortV(xs:List Val):List Val:=xs.mergeSort fun x y=>!(ltOf cmpV) y x
theorem flat_toArray(xs:List Val):flatK Val.cells 3 xs.toArray=(xs.flatMap Val.cells).toArray:=by
 apply Array.ext
 ·simp [flat_len val_len]
 ·intro i h1 h2;have h3:i<xs.length*3:=by simpa using h1
  have hd:i/3<xs.length:=by omega
  have:=flat_get val_len xs (i/3) (i%3) hd ((xs[i/3].cells)[i%3]!) (by
   have:i%3<(xs[i/3].cells).length:=by rw [val_len];omega
   rw [List.getElem?_eq_getElem this,getElem!_pos (xs[i/3].cells) (i%3) this])
  have hj:i/3*3+i%3=i:=by omega
  rw [hj] at this;have h4:=get_flatK Val.cells 3 xs.toArray i (by simpa using h3);rw [getElem!_pos (flatK Val.cells 3 xs.toArray) i h1] at h4;rw [h4];simp only [List.getElem_toArray];rw [getElem!_pos xs.toArray (i/3) (by simpa using hd)];have h5:=List.getElem?_eq_some_iff.1 this;obtain ⟨_,h6⟩:=h5;rw [h6];simp
theorem sort_any(A:Option Addr)(c:Nat)(xs:List Val)(base:Nat)(w:World)(h:Own w base 72 3 Val.cells (.slice A xs.length c) xs)(hl:xs.length≤1000000000) :
 Calls Tryz.prog 117 #[.slice A xs.length c,.func (.func 63) #[] #[]] w fun e w'=>e=.returned (.tuple #[])∧Own w' base 72 3 Val.cells (.slice A xs.length c) (sortV xs)∧w.grownBy w' (Value.slice A xs.length c).ownBlock:=by
 by_cases h0:xs.length=0
 ·have hx:xs=[]:=List.eq_nil_of_length_eq_zero h0;subst hx;refine (AnyF.slices_SortFunc_none (P:=Tryz.prog) (ρ:=Tryz.sortV_ren) { Tryz.sortV with } A c (.func (.func 63) #[] #[]) w).mono ?_;rintro e w' ⟨rfl,rfl⟩;refine ⟨rfl,?_,⟨rfl,rfl,rfl,Nat.le_refl _,fun _ _ _=>rfl⟩⟩;have:sortV []=[]:=by simp [sortV]
  rw [this];exact h
 ·rcases h.2 with ⟨_,h1⟩ | ⟨g,cap,cur,hv,hb,hg,hn,hm,hs,ht⟩
  ·exact absurd h1 h0
  ·injection hv with hA _ hc;subst hA;subst hc;have hH:HoldsK Val.cells 3 w g 0 xs.toArray:=fun j hj=>by
    rw [flat_toArray] at hj ⊢;have hj':j<(xs.flatMap Val.cells).length:=by simpa using hj
    have hjl:j<xs.length*3:=by rw [flat_len val_len] at hj';exact hj'
    have e1:cur[j]? =some (xs.flatMap Val.cells)[j]:=by
     have h7:(xs.flatMap Val.cells)[j]? =some (xs.flatMap Val.cells)[j]:=List.getElem?_eq_getElem hj';generalize (xs.flatMap Val.cells)[j]=u at h7 ⊢;rw [← ht,List.getElem?_take,if_pos hjl] at h7
     simpa using h7
    rw [getElem!_pos _ j hj];refine ⟨?_,by simp [World.frozen?,hg]⟩;simp only [World.cell?,hg,Nat.zero_add,Option.isSome_none,Bool.false_eq_true,if_false,id];rw [e1];simp
   have hlt:g<w.heap.size:=(Array.getElem?_eq_some_iff.1 hg).1;have:=AnyQ.slices_SortFunc_total (P:=Tryz.prog) (ρ:=Tryz.sortV_ren) Tryz.sortV 3 aggV sizeV Val.cells val_len val_one cmpV swoV 63 #[] g 0 c xs.toArray w (enters_of Tryz.func63 (by kernel_rfl) rfl) (cmpLaysV _ _ _ _) hH hlt (by simp;omega) totV;refine Calls.mono this ?_;rintro e w' ⟨rfl,n,os,rfl⟩;have hsl:(sortV xs).length=xs.length:=List.length_mergeSort _;have hF:flatK Val.cells 3 (xs.toArray.toList.mergeSort fun x y=>!ltOf cmpV y x).toArray=((sortV xs).flatMap Val.cells).toArray:=flat_toArray (sortV xs);have hheap:(sortWorldK Val.cells 3 w g 0 n (xs.toArray.toList.mergeSort fun x y=>!ltOf cmpV y x).toArray os).heap=w.heap.modify g (onCells (putCells id 0 ((sortV xs).flatMap Val.cells).toArray))++os:=by
    unfold sortWorldK putRowK;rw [hF];rfl
   have hfl:((sortV xs).flatMap Val.cells).length=xs.length*3:=by rw [flat_len val_len,hsl]
   refine ⟨rfl,?_,rfl,rfl,rfl,by rw [hheap];simp,fun k hk hne=>?_⟩
   ·refine ⟨by rw [hfl,hsl],.inr ⟨g,c,putCells id 0 ((sortV xs).flatMap Val.cells).toArray cur,by rw [hsl],hb,?_,by rw [hsl];exact hn,hm,?_,?_⟩⟩
    ·rw [hheap,Array.getElem?_append,if_pos (by simpa using hlt),Array.getElem?_modify,if_pos rfl,hg];rfl
    ·simp [putCells,hs]
    ·rw [hsl];apply List.ext_getElem?;intro i;rw [List.getElem?_take]
     by_cases hi:i<xs.length*3
     ·rw [if_pos hi];have hic:i<cur.size:=by rw [hs];have:=Nat.mul_le_mul_right 3 hn;omega
      simp [putCells,hic,hfl,hi]
     ·rw [if_neg hi,List.getElem?_eq_none (by omega)]
   ·have hkg:k≠g:=fun e=>hne (by simp [Value.ownBlock,e]);rw [hheap,Array.getElem?_append,if_pos (by simpa using hk),Array.getElem?_modify,if_neg (Ne.symm hkg)]
end Go.Proofs.YtpkocnpamcchcaaGreatDoor
