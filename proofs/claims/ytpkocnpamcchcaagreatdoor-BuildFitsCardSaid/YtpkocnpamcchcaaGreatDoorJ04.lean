/- Parts of the proof. -/
import Derived.Deep.Grids
import Derived.Lib.Strings
import Derived.Sort.Statements
import Derived.Shelf.SlSortCmp.Insertion
import Derived.Test.YtpkocnpamcchcaaGreatDoorJ03
set_option maxRecDepth 100000
set_option maxHeartbeats 4000000
set_option linter.unusedSimpArgs false
set_option linter.unusedVariables false
namespace Go.Proofs.YtpkocnpamcchcaaGreatDoor
open Go.RowKit Go.Zone Go.ChangeShapes Go.WideShapes Go.Deep Go.Joins Go.ChangeMaps
section
variable {H:Type} {enc:TypeId × Value→H} {w:World} {held:Bool}
theorem weights_all{P:Program}{e:TypeId}{n:Nat}:∀ {l:List (DataW H)} {d:DataW H},d∈l→n∈d.weights P e→n∈DataW.weightsAll P e l
 | x :: r,d,hd,hn=>by
   simp only [DataW.weightsAll,List.mem_append]
   rcases List.mem_cons.1 hd with rfl|hd
   ·exact .inl hn
   ·exact .inr (weights_all hd hn)
def colTest(P:Program)(t:TypeId):Bool:=match P.underlying t with
 | some (.struct ⟨[f0,f1]⟩)=>oneCellFields P #[f0,f1]&&(match P.underlying f0.type,P.underlying f1.type with|some .string,some (.int .u8)=>true|_,_=>false)
 | _=>false
theorem u_col:∃ f0 f1,Tryz.prog.underlying 53=some (.struct #[f0,f1])∧oneCellFields Tryz.prog #[f0,f1]=true∧Tryz.prog.underlying f0.type=some .string∧Tryz.prog.underlying f1.type=some (.int .u8):=by
 have h:colTest Tryz.prog 53=true:=by kernel_rfl
 unfold colTest at h
 split at h
 ·rename_i f0 f1 hs;rw [Bool.and_eq_true] at h;obtain ⟨h1,h2⟩:=h
  split at h2
  ·rename_i a b;exact ⟨f0,f1,hs,h1,a,b⟩
  ·cases h2
 ·cases h
theorem u_cols:Tryz.prog.underlying 22=some (.slice 53):=by kernel_rfl
theorem c_col:Tryz.prog.cellsOf 53=2:=by kernel_rfl
theorem u_ints:Tryz.prog.underlying 24=some (.slice 3):=by kernel_rfl
theorem u_bools:Tryz.prog.underlying 23=some (.slice 4):=by kernel_rfl
theorem c_int:Tryz.prog.cellsOf 3=1:=by kernel_rfl
theorem c_bool:Tryz.prog.cellsOf 4=1:=by kernel_rfl
theorem open_cols{b0:Nat}{r:Reach}{v:Value}{d:DataW H}{ps:List MemPlace}(hv:Value.okWide Tryz.prog w r b0 22 v)(h:DataW.Trod enc Tryz.prog w 0 (fun _=>true) held 22 v d ps)
 (hz:∀ n∈d.weights Tryz.prog 22,n≤reachBytes) :
 ∃ A c xs,v=.slice A xs.length c∧Sl w 2 Col.cells A c xs∧∀ x∈xs,x.name.size≤140737488355328:=by
 obtain ⟨f0,f1,hs,hone,t0,t1⟩:=u_col;have hrb:=reachBytes_lt;obtain ⟨fuel,hf⟩:=h;have hcs:v.cells.toList=[v]:=by
  simp only [Value.okWide,u_cols] at hv
  cases v<;>simp_all [Cell.okWide,Cell.ok,u_cols,Value.cells]
 rcases open_slice_fields u_cols hs hone c_col hf with ⟨h0,_⟩ | ⟨a,len,cap,m,D,Pl,h0,hb,hl,hm,hmm,hx,hi⟩
 ·simp only [hcs,List.cons.injEq,and_true] at h0;exact ⟨none,0,[],h0,Sl.nil_ _ (by omega),fun _ h=>by cases h⟩
 ·simp only [hcs,List.cons.injEq,and_true] at h0;simp only [Prod.mk.injEq] at hx;have hw1:∀ i,i<len→∀ n∈(D i).weights Tryz.prog 53,n≤reachBytes:=fun i hi n hn=>hz n (by
   rw [hx.1];simp only [DataW.weights,u_cols,List.mem_cons,List.mem_append];exact .inr (.inl (weights_all (List.mem_map.2 ⟨i,List.mem_range.2 hi,rfl⟩) hn)))
  have hw2:len*Tryz.prog.bytesOf 53≤reachBytes:=by
   have:=hz ((len+(m-len))*Tryz.prog.bytesOf 53) (by rw [hx.1];simp [DataW.weights,u_cols]);exact Nat.le_trans (Nat.mul_le_mul_right _ (by omega)) this
  rw [show Tryz.prog.bytesOf 53=24 by kernel_rfl] at hw2;obtain ⟨xs,hxl,hxs⟩:=choose_list (Q:=fun i (x:Col)=>x.name.size≤140737488355328∧w.cell? (a.add (i*2))=some (.string x.name)∧w.cell? (a.add (i*2+1))=some (.int .u8 x.kind)) len fun i hil=>by
   obtain ⟨ys,n,hD,_,hyl,hff⟩:=hi i (by rw [hmm];split<;>omega);obtain ⟨v0,y0,c0,e0,r0⟩:=hff 0 f0 rfl;obtain ⟨v1,y1,c1,e1,r1⟩:=hff 1 f1 rfl;obtain ⟨s,g0,gd,ws⟩:=DataW.trod_string t0 r0;obtain ⟨k,g1,_,wk⟩:=DataW.trod_int t1 r1
   cases g0;cases g1
   refine ⟨⟨s,k⟩,?_,c0,c1⟩
   match ys,hyl,e0,e1 with
   | [z0,z1],_,e0,e1 =>
     cases e0;cases e1
     have h2:=hw1 i hil s.data.toList.length (by
      rw [hD,gd];simp [DataW.weights,hs,DataW.weightsEach])
     have h3:s.data.toList.length=s.size:=by rw [Lib.size_eq]
     simp only;omega
  subst hxl;refine ⟨some a,cap,xs,h0,⟨hl,by unfold maxLen at hm;omega,by omega,fun i hil=>?_⟩,fun x hx=>?_⟩
  ·obtain ⟨_,c0,c1⟩:=hxs i hil;have hsp:a.spot=none:=by
    obtain ⟨_,d0,_⟩:=hxs 0 (by omega);simp only [Nat.zero_mul,Addr.add,if_true] at d0;unfold World.cell? at d0
    split at d0
    ·split at d0
     ·cases d0
     ·rename_i h;simpa using h
    ·cases d0
   have hadd:∀ n,a.add n=⟨a.block,a.off+n,none⟩:=fun n=>by
    obtain ⟨ab,ao,asp⟩:=a;simp only at hsp;subst hsp;unfold Addr.add
    split
    ·rename_i h;subst h;rfl
    ·rfl
   rw [hadd] at c0 c1;refine ⟨a.block,a.off,by obtain ⟨ab,ao,asp⟩:=a;simp only at hsp;subst hsp;rfl,fun j u hu=>?_⟩
   match j,hu with
   | 0,hu=>cases hu;exact c0
   | 1,hu=>cases hu;exact c1
  ·obtain ⟨i,hil,rfl⟩:=List.getElem_of_mem hx;exact (hxs i hil).1
theorem sl_ints{v:Value}{fuel:Nat}{x:DataW H × List MemPlace}(hf:DataW.trod enc Tryz.prog w 0 (fun _=>true) held fuel 24 [v]=some x)(hz:∀ n∈x.1.weights Tryz.prog 24,n≤reachBytes) :
 ∃ A c xs,v=.slice A xs.length c∧Sl w 1 i64V A c xs:=by
 have hrb:=reachBytes_lt
 rcases open_ints u_ints u_int c_int hf with ⟨h0,_⟩ | ⟨a,len,cap,zs,h0,_,hl,hm,hzl,hx,hcell,hwz⟩
 ·simp only [List.cons.injEq,and_true] at h0;exact ⟨none,0,[],h0,Sl.nil_ _ (by omega)⟩
 ·simp only [List.cons.injEq,and_true] at h0;simp only [if_true] at hzl;subst hx;have hz':=hz _ (by simp only [DataW.weights,u_ints];exact List.mem_cons_self);rw [show Tryz.prog.bytesOf 3=8 by kernel_rfl] at hz';simp only [lits,List.length_map,List.length_take,List.length_drop] at hz';have hbl:(zs.take len).length=len:=by simp;omega
  refine ⟨some a,cap,zs.take len,by rw [hbl];exact h0,⟨by rw [hbl];exact hl,by unfold maxLen at hm;omega,by rw [hbl];omega,fun i hi=>?_⟩⟩;rw [hbl] at hi;have c0:=hcell i (by omega);obtain ⟨ab,ao,spot⟩:=a;have hspot:spot=none:=by simpa [Addr.add] using World.cell?_spot (hcell 0 (by omega))
  subst hspot;refine ⟨ab,ao,rfl,fun j u hu=>?_⟩
  match j,hu with
  | 0,hu =>
    cases hu
    rw [Addr.add_lit] at c0;rw [Nat.mul_one,Nat.add_zero,c0];simp [List.getD,show i<zs.length by omega]
theorem sl_bools{v:Value}{fuel:Nat}{x:DataW H × List MemPlace}(hf:DataW.trod enc Tryz.prog w 0 (fun _=>true) held fuel 23 [v]=some x)(hz:∀ n∈x.1.weights Tryz.prog 23,n≤reachBytes) :
 ∃ A c xs,v=.slice A xs.length c∧Sl w 1 flV A c xs:=by
 have hrb:=reachBytes_lt
 rcases open_bools u_bools u_bool c_bool hf with ⟨h0,_⟩ | ⟨a,len,cap,B,h0,_,hl,hm,hx,hcell⟩
 ·simp only [List.cons.injEq,and_true] at h0;exact ⟨none,0,[],h0,Sl.nil_ _ (by omega)⟩
 ·simp only [List.cons.injEq,and_true] at h0;subst hx;have hz':=hz ((len+(cap-len))*Tryz.prog.bytesOf 4) (by simp [DataW.weights,u_bools,boolRow]);rw [show Tryz.prog.bytesOf 4=1 by kernel_rfl] at hz';have hbl:((List.range len).map B).length=len:=by simp
  refine ⟨some a,cap,(List.range len).map B,by rw [hbl];exact h0,⟨by rw [hbl];exact hl,by unfold maxLen at hm;omega,by rw [hbl];omega,fun i hi=>?_⟩⟩;rw [hbl] at hi;have c0:=hcell i (by omega);obtain ⟨ab,ao,spot⟩:=a;have hspot:spot=none:=by simpa [Addr.add] using World.cell?_spot (hcell 0 (by omega))
  subst hspot;refine ⟨ab,ao,rfl,fun j u hu=>?_⟩
  match j,hu with
  | 0,hu =>
    cases hu
    rw [Addr.add_lit] at c0;rw [Nat.mul_one,Nat.add_zero,c0];simp
def cfgTest(P:Program)(t ti tb:TypeId):Bool:=match P.underlying t with
 | some (.struct ⟨[f0,f1,f2,f3,f4]⟩)=>oneCellFields P #[f0,f1,f2,f3,f4]&&(f1.type==tb&&(f2.type==tb&&(f3.type==ti&&(match P.underlying f0.type,P.underlying f4.type with|some (.int .i64),some (.int .i64)=>true|_,_=>false))))
 | _=>false
theorem u_cfg:∃ f0 f1 f2 f3 f4,Tryz.prog.underlying 26=some (.struct #[f0,f1,f2,f3,f4])∧oneCellFields Tryz.prog #[f0,f1,f2,f3,f4]=true∧f1.type=23∧f2.type=23∧f3.type=24∧Tryz.prog.underlying f0.type=some (.int .i64)∧Tryz.prog.underlying f4.type=some (.int .i64):=by
 have h:cfgTest Tryz.prog 26 24 23=true:=by kernel_rfl
 unfold cfgTest at h
 split at h
 ·rename_i f0 f1 f2 f3 f4 hs;rw [Bool.and_eq_true,Bool.and_eq_true,Bool.and_eq_true,Bool.and_eq_true,beq_iff_eq,beq_iff_eq,beq_iff_eq] at h;obtain ⟨h1,e1,e2,e3,h2⟩:=h
  split at h2
  ·rename_i a b;exact ⟨f0,f1,f2,f3,f4,hs,h1,e1,e2,e3,a,b⟩
  ·cases h2
 ·cases h
theorem c_cfg:Tryz.prog.cellsOf 26=5:=by kernel_rfl
theorem five'{α:Type}{l:List α}(h:l.length=5):∃ a b c d e,l=[a,b,c,d,e]:=by
 match l,h with
 | [a,b,c,d,e],_=>exact ⟨a,b,c,d,e,rfl⟩
theorem open_cfg{b0:Nat}{r:Reach}{v:Value}{d:DataW H}{ps:List MemPlace}(hv:Value.okWide Tryz.prog w r b0 26 v)(h:DataW.Trod enc Tryz.prog w 0 (fun _=>true) held 26 v d ps)
 (hz:∀ n∈d.weights Tryz.prog 26,n≤reachBytes):∃ c:Cfg,v=c.v∧CfgAt w c:=by
 obtain ⟨f0,f1,f2,f3,f4,hs,hone,k1,k2,k3,t0,t4⟩:=u_cfg;obtain ⟨cs,rfl,hsz⟩:=okWide_struct hs hv;obtain ⟨fuel,hf0⟩:=h;obtain ⟨xs,n',hn',hx,hlen,hxl,hf⟩:=DataW.trod_struct hs hf0;rw [c_cfg] at hlen;obtain ⟨l⟩:=cs;obtain ⟨v0,v1,v2,v3,v4,rfl⟩:=five' (l:=l) hlen;obtain ⟨y0,y1,y2,y3,y4,rfl⟩:=five' hxl;simp only [Prod.mk.injEq,List.map_cons,List.map_nil] at hx;obtain ⟨rfl,_⟩:=hx;have g0:=hf 0 f0 rfl;have g1:=hf 1 f1 rfl;have g2:=hf 2 f2 rfl;have g3:=hf 3 f3 rfl;have g4:=hf 4 f4 rfl;rw [(hone_of hone 0 f0 rfl).1,(hone_of hone 0 f0 rfl).2] at g0;rw [(hone_of hone 1 f1 rfl).1,(hone_of hone 1 f1 rfl).2,k1] at g1;rw [(hone_of hone 2 f2 rfl).1,(hone_of hone 2 f2 rfl).2,k2] at g2;rw [(hone_of hone 3 f3 rfl).1,(hone_of hone 3 f3 rfl).2,k3] at g3;rw [(hone_of hone 4 f4 rfl).1,(hone_of hone 4 f4 rfl).2] at g4;simp only [Value.cells,List.drop_succ_cons,List.drop_zero,List.take_succ_cons,List.take_zero,List.getElem?_cons_zero,List.getElem?_cons_succ] at g0 g1 g2 g3 g4;obtain ⟨s,e0,_,_⟩:=DataW.trod_int t0 g0;obtain ⟨lf,e4,_,_⟩:=DataW.trod_int t4 g4;simp only [List.cons.injEq,and_true] at e0 e4;subst e0;subst e4;have hw:∀ n,n∈y1.1.weights Tryz.prog 23∨n∈y2.1.weights Tryz.prog 23∨n∈y3.1.weights Tryz.prog 24→n≤reachBytes:=fun n hn=>hz n (by
  simp only [DataW.weights,hs,List.map_cons,List.map_nil,DataW.weightsEach,List.mem_append,k1,k2,k3]
  rcases hn with h|h|h<;>simp [h])
 obtain ⟨iA,ic,iv,rfl,hi⟩:=sl_bools g1 fun n hn=>hw n (.inl hn);obtain ⟨rA,rc,rv,rfl,hr⟩:=sl_bools g2 fun n hn=>hw n (.inr (.inl hn));obtain ⟨sA,sc,sv,rfl,hsv⟩:=sl_ints g3 fun n hn=>hw n (.inr (.inr hn));exact ⟨⟨s,iA,ic,iv,rA,rc,rv,sA,sc,sv,lf⟩,rfl,⟨hi,hr,hsv⟩⟩
end
end Go.Proofs.YtpkocnpamcchcaaGreatDoor
namespace Go.Proofs.YtpkocnpamcchcaaGreatDoor
open Go.RowKit Go.Zone Go.Shelf
attribute [local go_sem] zone stepZ fill lookFs goes goesUpon dropFs cell_gro frozen_gro size_gro lt_add drew_gro tape_gro keep_refl
def lessV(x y:Val):Bool:=if x.k != y.k then decide (x.k<y.k) else if x.n != y.n then decide (x.n<y.n) else Op.bytesLess x.s.toList y.s.toList
theorem bytesLess_len:∀ (l m:List UInt8),(∀ j,(h1:j<l.length)→(h2:j<m.length)→l[j]=m[j])→Op.bytesLess l m=decide (l.length<m.length)
 | [],[],_=>by simp [Op.bytesLess]
 | [],y :: m,_=>by simp [Op.bytesLess]
 | x :: l,[],_=>by simp [Op.bytesLess]
 | x :: l,y :: m,h=>by
   have h0:=h 0 (by simp) (by simp);simp only [List.getElem_cons_zero] at h0;subst h0;have ih:=bytesLess_len l m fun j h1 h2=>by have:=h (j+1) (by simpa using h1) (by simpa using h2);simpa using this
   simp [Op.bytesLess,ih]
theorem bytesLess_at:∀ (l m:List UInt8) (k:Nat) (h1:k<l.length) (h2:k<m.length),(∀ j,j<k→(h1:j<l.length)→(h2:j<m.length)→l[j]=m[j])→l[k]≠m[k]→Op.bytesLess l m=decide (l[k]<m[k])
 | [],_,k,h1,_,_,_=>by simp at h1
 | _ :: _,[],k,_,h2,_,_=>by simp at h2
 | x :: l,y :: m,0,_,_,_,hne=>by
   simp only [List.getElem_cons_zero] at hne ⊢;simp [Op.bytesLess,hne]
 | x :: l,y :: m,k+1,h1,h2,h,hne=>by
   have h0:=h 0 (by omega) (by simp) (by simp);simp only [List.getElem_cons_zero] at h0;subst h0;have ih:=bytesLess_at l m k (by simpa using h1) (by simpa using h2) (fun j hj h1 h2=>by have:=h (j+1) (by omega) (by simpa using h1) (by simpa using h2);simpa using this) (by simpa using hne);simp [Op.bytesLess,ih]
theorem size_toList(s:ByteArray):s.toList.length=s.size:=by rw [Lib.toList_data];simp
theorem toList_get(s:ByteArray)(i:Nat)(h:i<s.toList.length):s.toList[i]=s[i]'(by rw [size_toList] at h;exact h):=by
 simp only [Lib.toList_data];simp;rfl
theorem less_any(x y:Val)(w:World)(hx:x.s.size≤maxLen)(hy:y.s.size≤maxLen):Calls Tryz.prog 41 #[x.v,y.v] w fun e w'=>e=.returned (.bool (lessV x y))∧Keep w w':=by
 obtain ⟨k,n,s⟩:=x;obtain ⟨k',n',s'⟩:=y;simp only [Val.v];simp only at hx hy;unfold maxLen at hx hy
 by_cases h1:k=k'
 ·subst h1
  by_cases h2:n=n'
  ·subst h2;simp only [lessV,bne_self_eq_false,Bool.false_eq_true,if_false];go_enter Tryz.func41,Tryz.ntmps41;go_wp2;go_loopw [5] (fun i wr=>∃ j:Nat,j≤s.size∧j≤s'.size∧i=.int .i64 j∧w.heap.size+1<wr.heap.size∧wr.cell? ⟨w.heap.size,2,none⟩=some (.string s)∧wr.cell? ⟨w.heap.size+1,2,none⟩=some (.string s')∧Hid (Keep w wr) ∧
    Hid (∀ i,i<j→(h1:i<s.size)→(h2:i<s'.size)→s[i]=s'[i])) (fun i _=>s.size-(intOf i).toNat)
   case atStart=>exact ⟨0,Nat.zero_le _,Nat.zero_le _,rfl,by simp,by simp [go_sem],by simp [go_sem],(by repeat first|exact kp0|apply kp1|apply kp2|apply kp3|apply kp4),fun i hi=>absurd hi (Nat.not_lt_zero _)⟩
   case round =>
    obtain ⟨j,hj,hj',rfl,hz,hc,hc',HK,HR⟩:=hrel;have hz':w.heap.size<wr.heap.size:=by omega
    by_cases hlt:j<s.size∧j<s'.size
    ·obtain ⟨hl,hl'⟩:=hlt
     by_cases he:s[j]=s'[j]
     ·have hb:(((s[j].toNat:Nat):Int) != (s'[j].toNat:Int))=false:=by rw [he];simp
      have HE:=lh he;clear he;go_wp2
      first|refine Zone.wp_region_all_gro (by kernel_rfl) (by kernel_rfl) ?_|refine Zone.wp_region_all (by kernel_rfl) (by kernel_rfl) ?_
      repeat
       refine Zone.wpZ_step (fun K hK=>?_);go_simp
       first
       | (refine hK _ _ ?_;clear hK K)
       | (apply Exists.intro
          refine ⟨fun p=>?_,hK _ _ ?_⟩
          (fail)
          clear hK K)
      refine Zone.wpZ_nil ?_;intro p;simp only [Zone.fill];go_wp2;go_roundw
      case rel=>exact ⟨j+1,by omega,by omega,by go_num,by simp [Zone.size_gro];omega,by simp [Zone.cell_gro,hz',hc],by simp [Zone.cell_gro,hz,hc'],HK.out.gro p,fun i hi h1 h2=>by
       by_cases e:i=j
       ·subst e;exact HE.out
       ·exact HR.out i (by omega) h1 h2⟩
      case measure=>simp [intOf];omega
     ·have hb:(((s[j].toNat:Nat):Int) != (s'[j].toNat:Int))=true:=by
       simp only [bne_iff_ne,ne_eq,Int.natCast_inj];exact fun e=>he (UInt8.toNat_inj.1 e)
      have HV:Hid (Op.bytesLess s.toList s'.toList=decide (s[j].toNat<s'[j].toNat)):=by
       have h:=bytesLess_at s.toList s'.toList j (by rw [size_toList];exact hl) (by rw [size_toList];exact hl') (fun i hi h1 h2=>by
        have:=HR.out i hi (by rw [size_toList] at h1;exact h1) (by rw [size_toList] at h2;exact h2)
        simpa [toList_get] using this) (by simpa [toList_get] using he)
       show _=_;rw [h];simp [toList_get,UInt8.lt_iff_toNat_lt]
      clear he;go_wp2
      first|refine Zone.wp_region_all_gro (by kernel_rfl) (by kernel_rfl) ?_|refine Zone.wp_region_all (by kernel_rfl) (by kernel_rfl) ?_
      repeat
       refine Zone.wpZ_step (fun K hK=>?_);go_simp
       first
       | (refine hK _ _ ?_;clear hK K)
       | (apply Exists.intro
          refine ⟨fun p=>?_,hK _ _ ?_⟩
          (fail)
          clear hK K)
      refine Zone.wpZ_nil ?_;intro p;simp only [Zone.fill];go_wp2
      first|refine Zone.wp_region_all_gro (by kernel_rfl) (by kernel_rfl) ?_|refine Zone.wp_region_all (by kernel_rfl) (by kernel_rfl) ?_
      repeat
       refine Zone.wpZ_step (fun K hK=>?_);go_simp
       first
       | (refine hK _ _ ?_;clear hK K)
       | (apply Exists.intro
          refine ⟨fun p=>?_,hK _ _ ?_⟩
          (fail)
          clear hK K)
      refine Zone.wpZ_nil ?_;intro q;simp only [Zone.fill];go_wp2;go_ret;exact ⟨ret_bool HV.out.symm,HK.out.gro _⟩
    ·have HV:Hid (Op.bytesLess s.toList s'.toList=decide (s.size<s'.size)):=by
         have h:=bytesLess_len s.toList s'.toList (fun i h1 h2=>by
          rw [size_toList] at h1 h2;have:=HR.out i (by omega) h1 h2
          simpa [toList_get] using this)
         show _=_;rw [h,size_toList,size_toList]
     by_cases hl:j<s.size
     all_goals
         go_wp2;go_ret;exact ⟨ret_bool HV.out.symm,HK.out⟩
  ·have hn:(n != n')=true:=by simpa using h2
   simp only [lessV,bne_self_eq_false,Bool.false_eq_true,if_false,hn,if_true];clear h2;go_enter Tryz.func41,Tryz.ntmps41;go_wp2;go_ret;exact ⟨rfl,(by repeat first|exact kp0|apply kp1|apply kp2|apply kp3|apply kp4)⟩
 ·have hn:(k != k')=true:=by simpa using h1
  simp only [lessV,hn,if_true];clear h1;go_enter Tryz.func41,Tryz.ntmps41;go_wp2;go_ret;exact ⟨rfl,(by repeat first|exact kp0|apply kp1|apply kp2|apply kp3|apply kp4)⟩
theorem info_val:(Tryz.prog.info? 72).map (fun i=>(i.zero,i.size,i.bytes))=some (some (.agg #[.int .u8 0,.int .i64 0,.string ByteArray.empty]),3,32):=by kernel_rfl
theorem elt_val:Elt Tryz.prog 56 72 3 32:=by
 obtain ⟨i,hi,h1,h2,h3⟩:=info_parts info_val;exact ⟨i,_,Tryz.underlying56,hi,h1,h2,h3,rfl,by decide,by decide⟩
theorem val_len(x:Val):x.cells.length=3:=rfl
theorem val_one(x:Val):∀ u∈x.cells,u.oneCell'=true:=by simp [Val.cells,Value.oneCell']
theorem val_at(x:Val){w:World}{g:Nat}(h0:w.cell? ⟨g,0,none⟩=some (.int .u8 x.k))(h1:w.cell? ⟨g,1,none⟩=some (.int .i64 x.n))(h2:w.cell? ⟨g,2,none⟩=some (.string x.s)):∀ j u,x.cells[j]? =some u→w.cell? ⟨g,j,none⟩=some u
 | 0,_,h=>by cases h;exact h0
 | 1,_,h=>by cases h;exact h1
 | 2,_,h=>by cases h;exact h2
def eqC(k n k' n':Int)(s s':ByteArray):Bool:=k==k'&&n==n'&&s.toList==s'.toList
def eqV(x y:Val):Bool:=eqC x.k x.n y.k y.n x.s y.s
theorem held_val:Tryz.prog.stoodInHeld 72=false:=by kernel_rfl
theorem guard_val:Tryz.prog.eqGuardType Tryz.prog.depth 72=false:=by kernel_rfl
theorem run_eq_val(k n k' n':Int)(s s':ByteArray)(w:World):Sem.run Tryz.prog (binOp .eql 72 (.agg #[.int .u8 k,.int .i64 n,.string s]) (.agg #[.int .u8 k',.int .i64 n',.string s'])) w=.ok (.bool (eqC k n k' n' s s')) w:=by
 have h1:=held_val;have h3:=guard_val;go_simp;unfold eqC
 by_cases a:k=k'<;>by_cases b:n=n'<;>by_cases c:s.toList=s'.toList<;>simp [a,b,c]
theorem run_ne_val(k n k' n':Int)(s s':ByteArray)(w:World):Sem.run Tryz.prog (binOp .neq 72 (.agg #[.int .u8 k,.int .i64 n,.string s]) (.agg #[.int .u8 k',.int .i64 n',.string s'])) w=.ok (.bool (!eqC k n k' n' s s')) w:=by
 have h1:=held_val;have h3:=guard_val;go_simp;unfold eqC
 by_cases a:k=k'<;>by_cases b:n=n'<;>by_cases c:s.toList=s'.toList<;>simp [a,b,c]
theorem run_eqG_val(op:BinOp)(x y:Operand)(xs ys:Array Value)(w:World):(eqGuard op 72 x y (.agg xs) (.agg ys)).run Tryz.prog w=.ok () w:=run_eqGuard_agg w op 72 x y xs ys guard_val
attribute [local go_sem high] run_eq_val run_ne_val run_eqG_val
def stepPut(v:Val)(a:List Val × Bool)(x:Val):List Val × Bool:=if !a.2&&lessV v x then (a.1++[v]++[x],true) else (a.1++[x],a.2)
def putS(v:Val)(xs:List Val):List Val × Bool:=xs.foldl (stepPut v) ([],false)
theorem putS_succ(v:Val)(xs:List Val)(k:Nat)(h:k<xs.length):putS v (xs.take (k+1))=stepPut v (putS v (xs.take k)) xs[k]:=by
 unfold putS;rw [List.take_succ_eq_append_getElem h,List.foldl_append];rfl
def putV(xs:List Val)(v:Val):List Val:=if xs.any (fun x=>eqV x v) then xs else if (putS v xs).2 then (putS v xs).1 else (putS v xs).1++[v]
def Fresh(base:Nat)(A:Option Addr)(n:Nat):Prop:=∀ g off,A=some ⟨g,off,none⟩→0<n→base≤g
theorem fresh_own{α:Type}{w:World}{base b0:Nat}{e:TypeId}{k:Nat}{enc:α→List Value}{A:Option Addr}{n m c:Nat}{xs:List α}(h:Zone.Own w b0 e k enc (.slice A n c) xs)(hb:base≤b0):Fresh base A m:=fun g off hA _=>by
 subst hA;have:=(h.lt g rfl).1;omega
theorem put_new(base:Nat)(A:Option Addr)(c:Nat)(xs:List Val)(v:Val)(w:World)(hbs:base≤w.heap.size)(hfr:Fresh base A xs.length)(h:Sl w 3 Val.cells A c xs)(hs:∀ x∈xs,x.s.size≤maxLen)(hv:v.s.size≤maxLen)(hl:xs.length≤1000000) :
 Calls Tryz.prog 94 #[.slice A xs.length c,v.v] w fun e w'=>∃ A' c',e=.returned (.slice A' (putV xs v).length c')∧Sl w' 3 Val.cells A' c' (putV xs v)∧Keep w w'∧Fresh base A' (putV xs v).length:=by
 have hl':=lh h.len;have HS:=lh hs;clear hs;have HFR:=lh hfr;clear hfr;obtain ⟨k0,n0,s0⟩:=v;simp only [Val.v];go_enter Tryz.func94,Tryz.ntmps94;go_wp2;go_loopw [5,6,7] (fun vo d i wr=>∃ (k:Nat) (o:List Val) (b:Bool),k≤xs.length∧i=.int .i64 k∧d=.bool b∧Hid (putS ⟨k0,n0,s0⟩ (xs.take k)=(o,b))∧Hid (Own wr (w.heap.size+1) 72 3 Val.cells vo o)∧Hid (Keep w wr) ∧
  Hid (∀ j,(h:j<xs.length)→j<k→eqV xs[j] ⟨k0,n0,s0⟩=false)∧o.length≤2*k ∧
  w.heap.size<wr.heap.size∧wr.cell? ⟨w.heap.size,0,none⟩=some (.int .u8 k0)∧wr.cell? ⟨w.heap.size,1,none⟩=some (.int .i64 n0)∧wr.cell? ⟨w.heap.size,2,none⟩=some (.string s0)) (fun _ _ i _=>xs.length-(intOf i).toNat)
 case atStart=>exact ⟨0,[],false,Nat.zero_le _,rfl,rfl,rfl,Own.nil_ _ _ _ _ _,(by repeat first|exact kp0|apply kp1|apply kp2|apply kp3|apply kp4),fun j _ hj=>absurd hj (Nat.not_lt_zero _),by simp,by simp,by simp [go_sem],by simp [go_sem],by simp [go_sem]⟩
 case round =>
  obtain ⟨k,o,b,hk,rfl,rfl,HF,HO,HK,HR,hol,hz,b0,b1,b2⟩:=hrel
  by_cases hlt:k<xs.length
  ·obtain ⟨bx,off,rfl,hbx,c0,c1,c2⟩:=sl_val (h.keep HK.out) k hlt
   by_cases he:eqC xs[k].k xs[k].n k0 n0 xs[k].s s0=true
   ·go_wp2
    first|refine Zone.wp_region_all_gro (by kernel_rfl) (by kernel_rfl) ?_|refine Zone.wp_region_all (by kernel_rfl) (by kernel_rfl) ?_
    repeat
     refine Zone.wpZ_step (fun K hK=>?_);go_simp
     first
     | (refine hK _ _ ?_;clear hK K)
     | (apply Exists.intro
        refine ⟨fun p=>?_,hK _ _ ?_⟩
        (fail)
        clear hK K)
    refine Zone.wpZ_nil ?_;intro p;simp only [Zone.fill];go_wp2;go_ret;have hp:putV xs ⟨k0,n0,s0⟩=xs:=by
     unfold putV;rw [if_pos (List.any_eq_true.2 ⟨xs[k],List.getElem_mem _,he⟩)]
    exact ⟨some ⟨bx,off,none⟩,c,by rw [hp];rfl,by rw [hp];exact (h.keep HK.out).keep (below_gro _ _),HK.out.gro _,by rw [hp];exact HFR.out⟩
   ·have he':eqC xs[k].k xs[k].n k0 n0 xs[k].s s0=false:=by simpa using he
    clear he;have hsucc:=putS_succ ⟨k0,n0,s0⟩ xs k hlt;rw [HF.out] at hsucc;have H2:=lh hsucc;clear hsucc;go_wp2
    first|refine Zone.wp_region_all_gro (by kernel_rfl) (by kernel_rfl) ?_|refine Zone.wp_region_all (by kernel_rfl) (by kernel_rfl) ?_
    repeat
     refine Zone.wpZ_step (fun K hK=>?_);go_simp
     first
     | (refine hK _ _ ?_;clear hK K)
     | (apply Exists.intro
        refine ⟨fun p=>?_,hK _ _ ?_⟩
        (fail)
        clear hK K)
    refine Zone.wpZ_nil ?_;intro p;simp only [Zone.fill]
    cases b
    ·cases hless:lessV ⟨k0,n0,s0⟩ xs[k]
     ·have hcall:=fun W=>less_any ⟨k0,n0,s0⟩ xs[k] W hv (HS.out _ (List.getElem_mem _));rw [hless] at hcall;have HC:=lh hcall;clear hcall;go_wp2
      first|refine Zone.wp_region_all_gro (by kernel_rfl) (by kernel_rfl) ?_|refine Zone.wp_region_all (by kernel_rfl) (by kernel_rfl) ?_
      repeat
       refine Zone.wpZ_step (fun K hK=>?_);go_simp
       first
       | (refine hK _ _ ?_;clear hK K)
       | (apply Exists.intro
          refine ⟨fun p=>?_,hK _ _ ?_⟩
          ((go_at_call 41;exact Zone.zc (HC.out _)))
          clear hK K)
      refine Zone.wpZ_nil ?_;intro q;simp only [Zone.fill];go_wp2_with (at_builtin;refine hold ?_);refine unhold ?_;have HO1:=(HO.out.keep (below_gro _ q)).keep (Keep.alloc (Keep.refl _) (.cells #[.int .u8 xs[k].k,.int .i64 xs[k].n,.string xs[k].s] 72));refine wpList_app elt_val val_len val_one rfl (.tmp 35) (.tmp 40) rfl (ys:=[xs[k]]) HO1 rfl rfl (sl_one _ (by omega) (by omega) (val_at _ (by simp [go_sem]) (by simp [go_sem]) (by simp [go_sem]))) (by simp;omega) (by simp [size_gro];omega) ?_;intro v' w1 hown1 hg1 _;have ⟨a1,a2,a3⟩:=HO1.after hg1 (HK.out.trans (by repeat first|exact kp0|apply kp1|apply kp2|apply kp3|apply kp4)) (Nat.le_succ _);go_wp2;go_roundw
      case rel=>exact ⟨k+1,o++[xs[k]],false,by omega,by go_num,rfl,(by show _=_;rw [H2.out];simp [stepPut,hless]),hown1,a1,(fun j hj hjk=>by
           by_cases e:j=k
           ·subst e;exact he'
           ·exact HR.out j hj (by omega)),by simp;omega,by simp [size_gro] at a2;omega,a3 _ _ (by simp) (by simp [go_sem,hz,b0]),a3 _ _ (by simp) (by simp [go_sem,hz,b1]),a3 _ _ (by simp) (by simp [go_sem,hz,b2])⟩
      case measure=>simp [intOf];omega
     ·have hcall:=fun W=>less_any ⟨k0,n0,s0⟩ xs[k] W hv (HS.out _ (List.getElem_mem _));rw [hless] at hcall;have HC:=lh hcall;clear hcall;go_wp2
      first|refine Zone.wp_region_all_gro (by kernel_rfl) (by kernel_rfl) ?_|refine Zone.wp_region_all (by kernel_rfl) (by kernel_rfl) ?_
      repeat
       refine Zone.wpZ_step (fun K hK=>?_);go_simp
       first
       | (refine hK _ _ ?_;clear hK K)
       | (apply Exists.intro
          refine ⟨fun p=>?_,hK _ _ ?_⟩
          ((go_at_call 41;exact Zone.zc (HC.out _)))
          clear hK K)
      refine Zone.wpZ_nil ?_;intro q;simp only [Zone.fill];go_wp2_with (at_builtin;refine hold ?_);refine unhold ?_;have HO1:=(HO.out.keep (below_gro _ q)).keep (Keep.alloc (Keep.refl _) (.cells #[.int .u8 k0,.int .i64 n0,.string s0] 72));refine wpList_app elt_val val_len val_one rfl (.tmp 31) (.tmp 33) rfl (ys:=[⟨k0,n0,s0⟩]) HO1 rfl rfl (sl_one _ (by omega) (by omega) (val_at _ (by simp [go_sem]) (by simp [go_sem]) (by simp [go_sem]))) (by simp;omega) (by simp [size_gro];omega) ?_;intro v1 w1 hown1 hg1 _;have ⟨a1,a2,a3⟩:=HO1.after hg1 (HK.out.trans (by repeat first|exact kp0|apply kp1|apply kp2|apply kp3|apply kp4)) (Nat.le_succ _);have hz1:w.heap.size<w1.heap.size:=by simp [size_gro] at a2;omega
      have d0:=a3 ⟨w.heap.size,0,none⟩ (.int .u8 k0) (by simp) (by simp [go_sem,hz,b0]);have d1:=a3 ⟨w.heap.size,1,none⟩ (.int .i64 n0) (by simp) (by simp [go_sem,hz,b1]);have d2:=a3 ⟨w.heap.size,2,none⟩ (.string s0) (by simp) (by simp [go_sem,hz,b2]);clear b0 b1 b2 c0 c1 c2 a3;obtain ⟨bx',off',hA',hbx',c0,c1,c2⟩:=sl_val (h.keep a1) k hlt
      cases hA'
      clear HO HO1;have HO:=lh hown1;clear hown1;go_wp2_with (at_builtin;refine hold ?_);refine unhold ?_;have HO1:=HO.out.keep (Keep.alloc (Keep.refl _) (.cells #[.int .u8 xs[k].k,.int .i64 xs[k].n,.string xs[k].s] 72));refine wpList_app elt_val val_len val_one rfl (.tmp 35) (.tmp 40) rfl (ys:=[xs[k]]) HO1 rfl rfl (sl_one _ (by omega) (by omega) (val_at _ (by simp [go_sem]) (by simp [go_sem]) (by simp [go_sem]))) (by simp;omega) (by simp;omega) ?_;intro v2 w2 hown2 hg2 _;have ⟨e1,e2,e3⟩:=HO1.after hg2 (a1.trans (by repeat first|exact kp0|apply kp1|apply kp2|apply kp3|apply kp4)) (Nat.le_succ _);go_wp2;go_roundw
      case rel=>exact ⟨k+1,o++[(⟨k0,n0,s0⟩:Val)]++[xs[k]],true,by omega,by go_num,rfl,(by show _=_;rw [H2.out];simp [stepPut,hless]),hown2,e1,(fun j hj hjk=>by
           by_cases e:j=k
           ·subst e;exact he'
           ·exact HR.out j hj (by omega)),by simp;omega,by simp at e2;omega,e3 _ _ (by simp) (by simp [go_sem,hz1,d0]),e3 _ _ (by simp) (by simp [go_sem,hz1,d1]),e3 _ _ (by simp) (by simp [go_sem,hz1,d2])⟩
      case measure=>simp [intOf];omega
    ·go_wp2
     first|refine Zone.wp_region_all_gro (by kernel_rfl) (by kernel_rfl) ?_|refine Zone.wp_region_all (by kernel_rfl) (by kernel_rfl) ?_
     repeat
      refine Zone.wpZ_step (fun K hK=>?_);go_simp
      first
      | (refine hK _ _ ?_;clear hK K)
      | (apply Exists.intro
         refine ⟨fun p=>?_,hK _ _ ?_⟩
         (fail)
         clear hK K)
     refine Zone.wpZ_nil ?_;intro q;simp only [Zone.fill];go_wp2_with (at_builtin;refine hold ?_);refine unhold ?_;have HO1:=(HO.out.keep (below_gro _ q)).keep (Keep.alloc (Keep.refl _) (.cells #[.int .u8 xs[k].k,.int .i64 xs[k].n,.string xs[k].s] 72));refine wpList_app elt_val val_len val_one rfl (.tmp 35) (.tmp 40) rfl (ys:=[xs[k]]) HO1 rfl rfl (sl_one _ (by omega) (by omega) (val_at _ (by simp [go_sem]) (by simp [go_sem]) (by simp [go_sem]))) (by simp;omega) (by simp [size_gro];omega) ?_;intro v' w1 hown1 hg1 _;have ⟨a1,a2,a3⟩:=HO1.after hg1 (HK.out.trans (by repeat first|exact kp0|apply kp1|apply kp2|apply kp3|apply kp4)) (Nat.le_succ _);go_wp2;go_roundw
     case rel=>exact ⟨k+1,o++[xs[k]],true,by omega,by go_num,rfl,(by show _=_;rw [H2.out];simp [stepPut]),hown1,a1,(fun j hj hjk=>by
      by_cases e:j=k
      ·subst e;exact he'
      ·exact HR.out j hj (by omega)),by simp;omega,by simp [size_gro] at a2;omega,a3 _ _ (by simp) (by simp [go_sem,hz,b0]),a3 _ _ (by simp) (by simp [go_sem,hz,b1]),a3 _ _ (by simp) (by simp [go_sem,hz,b2])⟩
     case measure=>simp [intOf];omega
  ·have hkl:k=xs.length:=by omega
   have HF':Hid (putS ⟨k0,n0,s0⟩ xs=(o,b)):=by
    have:=HF.out;rw [hkl,List.take_length] at this;exact this
   have HN:Hid (xs.any (fun x=>eqV x ⟨k0,n0,s0⟩)=false):=by
    show _=_;rw [List.any_eq_false];intro x hx;obtain ⟨j,hj,rfl⟩:=List.getElem_of_mem hx;simp [HR.out j hj (by omega)]
   clear HF hkl
   cases b
   ·go_wp2_with (at_builtin;refine hold ?_);refine unhold ?_;have HO1:=HO.out.keep (Keep.alloc (Keep.refl _) (.cells #[.int .u8 k0,.int .i64 n0,.string s0] 72));refine wpList_app elt_val val_len val_one rfl (.tmp 44) (.tmp 46) rfl (ys:=[⟨k0,n0,s0⟩]) HO1 rfl rfl (sl_one _ (by omega) (by omega) (val_at _ (by simp [go_sem]) (by simp [go_sem]) (by simp [go_sem]))) (by simp;omega) (by simp;omega) ?_;intro v' w1 hown1 hg1 _;have ⟨a1,a2,a3⟩:=HO1.after hg1 (HK.out.trans (by repeat first|exact kp0|apply kp1|apply kp2|apply kp3|apply kp4)) (Nat.le_succ _);go_wp2;go_ret;obtain ⟨A',c',hv',hsl⟩:=hown1.sl val_len (by simp;omega);have hp:putV xs ⟨k0,n0,s0⟩=o++[⟨k0,n0,s0⟩]:=by
     unfold putV;rw [HN.out,HF'.out];simp
    exact ⟨A',c',by rw [hp,← hv'];rfl,by rw [hp];exact hsl,a1,fresh_own (hv' ▸ hown1) (by omega)⟩
   ·go_wp2;go_ret;obtain ⟨A',c',hv',hsl⟩:=HO.out.sl val_len (by omega);have hp:putV xs ⟨k0,n0,s0⟩=o:=by
     unfold putV;rw [HN.out,HF'.out];simp
    exact ⟨A',c',by rw [hp,← hv'];rfl,by rw [hp];exact hsl,HK.out,fresh_own (hv' ▸ HO.out) (by omega)⟩
end Go.Proofs.YtpkocnpamcchcaaGreatDoor
namespace Go.Proofs.YtpkocnpamcchcaaGreatDoor
open Go.RowKit Go.Zone Go.Shelf Go.Sort
theorem bl_irrefl:∀ l,Op.bytesLess l l=false
 | []=>rfl
 | a :: l=>by simp [Op.bytesLess,bl_irrefl l]
theorem bl_trans:∀ l m n,Op.bytesLess l m=true→Op.bytesLess m n=true→Op.bytesLess l n=true
 | [],[],_,h,_=>by cases h
 | [],_ :: _,[],_,h=>by cases h
 | [],_ :: _,_ :: _,_,_=>rfl
 | _ :: _,[],_,h,_=>by cases h
 | _ :: _,_ :: _,[],_,h=>by cases h
 | a :: l,b :: m,c :: n,h1,h2=>by
   simp only [Op.bytesLess,Bool.or_eq_true,Bool.and_eq_true,decide_eq_true_eq,beq_iff_eq] at h1 h2 ⊢
   rcases h1 with h1 | ⟨rfl,h1⟩
   ·rcases h2 with h2 | ⟨rfl,h2⟩
    ·exact .inl (UInt8.lt_trans h1 h2)
    ·exact .inl h1
   ·rcases h2 with h2 | ⟨rfl,h2⟩
    ·exact .inl h2
    ·exact .inr ⟨rfl,bl_trans l m n h1 h2⟩
theorem bl_total:∀ l m,Op.bytesLess l m=false→Op.bytesLess m l=false→l=m
 | [],[],_,_=>rfl
 | [],_ :: _,h,_=>by cases h
 | _ :: _,[],_,h=>by cases h
 | a :: l,b :: m,h1,h2=>by
   simp only [Op.bytesLess,Bool.or_eq_false_iff,Bool.and_eq_false_iff,decide_eq_false_iff_not,beq_eq_false_iff_ne,ne_eq,UInt8.not_lt] at h1 h2;have:a=b:=UInt8.le_antisymm h2.1 h1.1;subst this
   rw [bl_total l m (by rcases h1.2 with h|h; · exact absurd rfl h
                        ·exact h) (by rcases h2.2 with h|h; · exact absurd rfl h
                                      ·exact h)]
theorem ba_ext{a b:ByteArray}(h:a.toList=b.toList):a=b:=by
 rw [Lib.toList_data,Lib.toList_data] at h
 cases a;cases b
 congr 1
 exact Array.ext' (by simpa using h)
theorem cmpS_lt(a b:ByteArray):cmpS a b<0↔Op.bytesLess a.toList b.toList=true:=by
 unfold cmpS
 cases Op.bytesLess a.toList b.toList<;>cases (a.toList==b.toList)<;>simp
theorem cmpS_eq(a b:ByteArray):cmpS a b=0↔a=b:=by
 unfold cmpS;constructor
 ·intro h
  cases h1:Op.bytesLess a.toList b.toList<;>cases h2:(a.toList==b.toList)<;>simp [h1,h2] at h
  exact ba_ext (by simpa using h2)
 ·rintro rfl;simp [bl_irrefl]
theorem cmpI_lt(a b:Int):cmpI a b<0↔a<b:=by unfold cmpI;(repeat' split)<;>omega
theorem cmpI_eq(a b:Int):cmpI a b=0↔a=b:=by unfold cmpI;(repeat' split)<;>omega
def LtV(x y:Val):Prop:=x.k<y.k∨(x.k=y.k∧(x.n<y.n∨(x.n=y.n∧Op.bytesLess x.s.toList y.s.toList=true)))
theorem cmpV_lt(x y:Val):cmpV x y<0↔LtV x y:=by
 unfold cmpV LtV;simp only [orL];have a:=cmpI_lt x.k y.k;have a':=cmpI_eq x.k y.k;have b:=cmpI_lt x.n y.n;have b':=cmpI_eq x.n y.n;have c:=cmpS_lt x.s y.s
 by_cases h1:cmpI x.k y.k=0
 ·have e1:=a'.1 h1;rw [if_pos h1]
  by_cases h2:cmpI x.n y.n=0
  ·have e2:=b'.1 h2;rw [if_pos h2]
   by_cases h3:cmpS x.s y.s=0
   ·rw [if_pos h3,e1,e2];have:¬ (Op.bytesLess x.s.toList y.s.toList=true):=fun h=>by have:=c.2 h;omega
    simp [this]
   ·rw [if_neg h3,c,e1,e2];simp
  ·rw [if_neg h2,b,e1];have:x.n≠y.n:=fun h=>h2 (b'.2 h);simp [this]
 ·rw [if_neg h1,a];have:x.k≠y.k:=fun h=>h1 (a'.2 h);simp [this]
theorem cmpV_eq(x y:Val):cmpV x y=0↔x=y:=by
 obtain ⟨k,n,s⟩:=x;obtain ⟨k',n',s'⟩:=y;unfold cmpV;simp only [orL,Val.mk.injEq];have a':=cmpI_eq k k';have b':=cmpI_eq n n';have c':=cmpS_eq s s'
 by_cases h1:cmpI k k'=0
 ·rw [if_pos h1]
  by_cases h2:cmpI n n'=0
  ·rw [if_pos h2]
   by_cases h3:cmpS s s'=0
   ·rw [if_pos h3];simp [a'.1 h1,b'.1 h2,c'.1 h3]
   ·rw [if_neg h3];exact ⟨fun h=>absurd h h3,fun h=>absurd (c'.2 h.2.2) h3⟩
  ·rw [if_neg h2];exact ⟨fun h=>absurd h h2,fun h=>absurd (b'.2 h.2.1) h2⟩
 ·rw [if_neg h1];exact ⟨fun h=>absurd h h1,fun h=>absurd (a'.2 h.1) h1⟩
theorem LtV.irrefl(x:Val):¬ LtV x x:=by
 unfold LtV;simp [bl_irrefl]
theorem LtV.trans{x y z:Val}(h:LtV x y)(k:LtV y z):LtV x z:=by
 unfold LtV at *
 rcases h with h | ⟨e,h⟩
 ·rcases k with k | ⟨e',k⟩
  ·exact .inl (by omega)
  ·exact .inl (by omega)
 ·rcases k with k | ⟨e',k⟩
  ·exact .inl (by omega)
  ·refine .inr ⟨by omega,?_⟩
   rcases h with h | ⟨e2,h⟩
   ·rcases k with k | ⟨e3,k⟩
    ·exact .inl (by omega)
    ·exact .inl (by omega)
   ·rcases k with k | ⟨e3,k⟩
    ·exact .inl (by omega)
    ·exact .inr ⟨by omega,bl_trans _ _ _ h k⟩
theorem LtV.tri(x y:Val):LtV x y∨x=y∨LtV y x:=by
 obtain ⟨k,n,s⟩:=x;obtain ⟨k',n',s'⟩:=y;unfold LtV;simp only [Val.mk.injEq]
 rcases Int.lt_trichotomy k k' with h|h|h
 ·exact .inl (.inl h)
 ·rcases Int.lt_trichotomy n n' with h2|h2|h2
  ·exact .inl (.inr ⟨h,.inl h2⟩)
  ·cases h3:Op.bytesLess s.toList s'.toList
   ·cases h4:Op.bytesLess s'.toList s.toList
    ·exact .inr (.inl ⟨h,h2,ba_ext (bl_total _ _ h3 h4)⟩)
    ·exact .inr (.inr (.inr ⟨h.symm,.inr ⟨h2.symm,rfl⟩⟩))
   ·exact .inl (.inr ⟨h,.inr ⟨h2,rfl⟩⟩)
  ·exact .inr (.inr (.inr ⟨h.symm,.inl h2⟩))
 ·exact .inr (.inr (.inl h))
theorem swoV:SWO (ltOf cmpV):=by
 refine ⟨fun x=>?_,fun x y z h k=>?_,fun x y z h k=>?_⟩
 ·simp only [ltOf,decide_eq_false_iff_not];rw [cmpV_lt];exact LtV.irrefl x
 ·simp only [ltOf,decide_eq_true_eq] at *;rw [cmpV_lt] at *;exact h.trans k
 ·simp only [ltOf,decide_eq_false_iff_not] at *;rw [cmpV_lt] at *;intro hxz
  rcases LtV.tri x y with h1|h1|h1
  ·exact h h1
  ·subst h1;exact k hxz
  ·exact k (h1.trans hxz)
theorem totV(x y:Val)(h:ltOf cmpV x y=false)(k:ltOf cmpV y x=false):x=y:=by
 simp only [ltOf,decide_eq_false_iff_not] at *;rw [cmpV_lt] at *
 rcases LtV.tri x y with h1|h1|h1
 ·exact absurd h1 h
 ·exact h1
 ·exact absurd h1 k
theorem lessV_iff(x y:Val):lessV x y=true↔LtV x y:=by
 unfold lessV LtV
 by_cases h1:x.k=y.k
 ·by_cases h2:x.n=y.n
  ·simp [h1,h2]
  ·simp [h1,h2]
 ·simp [h1]
theorem eqV_iff(x y:Val):eqV x y=true↔x=y:=by
 obtain ⟨k,n,s⟩:=x;obtain ⟨k',n',s'⟩:=y;simp only [eqV,eqC,Bool.and_eq_true,beq_iff_eq,Val.mk.injEq];constructor
 ·rintro ⟨⟨h1,h2⟩,h3⟩;exact ⟨h1,h2,ba_ext h3⟩
 ·rintro ⟨h1,h2,h3⟩;exact ⟨⟨h1,h2⟩,by rw [h3]⟩
end Go.Proofs.YtpkocnpamcchcaaGreatDoor
