/- Parts of the proof. -/
import Derived.Test.YtpkocnpamcchcaaGreatDoorJ27
set_option maxRecDepth 100000
set_option maxHeartbeats 4000000
set_option linter.unusedSimpArgs false
set_option linter.unusedVariables false
namespace Go.Proofs.YtpkocnpamcchcaaGreatDoor
open Go.RowKit Go.Zone Go.Shelf
attribute [local go_sem] zone stepZ fill lookFs goes goesUpon dropFs cell_gro frozen_gro size_gro lt_add drew_gro tape_gro keep_refl
attribute [local go_sem] lt_add2 lt_add3 lt_add4 lt_add5 lt_add6 lt_add7 lt_add8 lt_add9 lt_add10 lt_add11 lt_add12
theorem sclone_any(A:Option Addr)(c:Nat)(xs:List SM)(w:World)(h:Sl w 3 smC A c xs)(hl:xs.length≤1000000000)(h0:xs=[]→A=none) :
 Calls Tryz.prog 141 #[.slice A xs.length c] w fun e w'=>∃ A' c',e=.returned (.slice A' xs.length c')∧Own w' w.heap.size 160 3 smC (.slice A' xs.length c') xs∧(xs=[]→A'=none)∧Keep w w':=by
 have hn:=fun W:World=>Lib.run_eql_slice_nil W 156 160 A xs.length c 0 0 Tryz.underlying156
 cases A with
 | none =>
   have hx:xs=[]:=by
    rcases xs with _ | ⟨y,r⟩
    ·rfl
    ·obtain ⟨_,_,hA,_⟩:=h.at_ 0 (by simp)
     cases hA
   subst hx;simp only [List.length_nil,Option.isNone_none] at hn ⊢;go_enter Tryz.func141,Tryz.ntmps141;go_wp2;go_ret;exact ⟨none,0,rfl,Own.nil_ _ _ _ _ _,by simp,Keep.refl _⟩
 | some ad =>
   have H:=lh h;clear h;have HNE:=lh (fun e:xs=[]=>by cases h0 e:xs=[]→False);clear h0;go_enter Tryz.func141,Tryz.ntmps141;go_wp2_with (at_builtin;refine hold ?_);refine unhold ?_;have HO1:Own (w.alloc (.cells #[] 160)) w.heap.size 160 3 smC (.slice (some ⟨w.heap.size,0,none⟩) 0 0) ([]:List SM):=World.ownsRow_made w #[] 0 (Nat.le_refl _) (by unfold maxLen;omega) rfl;refine wpList_app elt_sm sm_len sm_one rfl (.tmp 5) (.tmp 6) rfl (ys:=xs) HO1 rfl rfl (H.out.keep (by repeat first|exact kp0|apply kp1|apply kp2|apply kp3|apply kp4)) (by simp;omega) (by simp) ?_;intro v1 w1 hown1 hg1 _;have ⟨a1,a2,a3⟩:=HO1.after (w:=w) hg1 (by repeat first|exact kp0|apply kp1|apply kp2|apply kp3|apply kp4) (Nat.le_refl _);clear hn a2 a3;go_wp2;go_ret;simp only [List.nil_append] at hown1;obtain ⟨A',c',hv⟩:=own_form hown1;exact ⟨A',c',by rw [← hv];rfl,by rw [← hv];exact hown1,fun e=>(HNE.out e).elim,a1⟩
theorem rclone_any(A:Option Addr)(c:Nat)(xs:List Rc)(w:World)(h:Sl w 10 Rc.cells A c xs)(hl:xs.length≤1000000000)(h0:xs=[]→A=none) :
 Calls Tryz.prog 142 #[.slice A xs.length c] w fun e w'=>∃ A' c',e=.returned (.slice A' xs.length c')∧Own w' w.heap.size 158 10 Rc.cells (.slice A' xs.length c') xs∧(xs=[]→A'=none)∧Keep w w':=by
 have hn:=fun W:World=>Lib.run_eql_slice_nil W 151 158 A xs.length c 0 0 Tryz.underlying151
 cases A with
 | none =>
   have hx:xs=[]:=by
    rcases xs with _ | ⟨y,r⟩
    ·rfl
    ·obtain ⟨_,_,hA,_⟩:=h.at_ 0 (by simp)
     cases hA
   subst hx;simp only [List.length_nil,Option.isNone_none] at hn ⊢;go_enter Tryz.func142,Tryz.ntmps142;go_wp2;go_ret;exact ⟨none,0,rfl,Own.nil_ _ _ _ _ _,by simp,Keep.refl _⟩
 | some ad =>
   have H:=lh h;clear h;have HNE:=lh (fun e:xs=[]=>by cases h0 e:xs=[]→False);clear h0;go_enter Tryz.func142,Tryz.ntmps142;go_wp2_with (at_builtin;refine hold ?_);refine unhold ?_;have HO1:Own (w.alloc (.cells #[] 158)) w.heap.size 158 10 Rc.cells (.slice (some ⟨w.heap.size,0,none⟩) 0 0) ([]:List Rc):=World.ownsRow_made w #[] 0 (Nat.le_refl _) (by unfold maxLen;omega) rfl;refine wpList_app elt_rc rc_len rc_one rfl (.tmp 5) (.tmp 6) rfl (ys:=xs) HO1 rfl rfl (H.out.keep (by repeat first|exact kp0|apply kp1|apply kp2|apply kp3|apply kp4)) (by simp;omega) (by simp) ?_;intro v1 w1 hown1 hg1 _;have ⟨a1,a2,a3⟩:=HO1.after (w:=w) hg1 (by repeat first|exact kp0|apply kp1|apply kp2|apply kp3|apply kp4) (Nat.le_refl _);clear hn a2 a3;go_wp2;go_ret;simp only [List.nil_append] at hown1;obtain ⟨A',c',hv⟩:=own_form hown1;exact ⟨A',c',by rw [← hv];rfl,by rw [← hv];exact hown1,fun e=>(HNE.out e).elim,a1⟩
theorem held_ids:Tryz.prog.stoodInHeld 155=false:=by kernel_rfl
theorem guard_ids:Tryz.prog.eqGuardType Tryz.prog.depth 155=false:=by kernel_rfl
theorem und_ids:Tryz.prog.underlying 155=some (.array 8 3):=by kernel_rfl
theorem eqI_run(d:Nat)(a b:Int)(w:World):Sem.run Tryz.prog (Op.equalIn (d+1) 3 (.int .i64 a) (.int .i64 b)) w=.ok (a==b) w:=by
 simp only [Op.equalIn,Sem.run_bind,run_underlying Tryz.underlying3,Result.andThen_ok,if_true,Sem.run_pure]
theorem part_run(xs:Array Value)(i:Nat)(v:Value)(h:xs[i]? =some v)(_hv:v.oneCell'=true)(w:World):Sem.run Tryz.prog (part 3 xs i) w=.ok v w:=by
 go_simp
theorem eq8_run(d:Nat)(a0 a1 a2 a3 a4 a5 a6 a7 b0 b1 b2 b3 b4 b5 b6 b7:Int)(w:World):Sem.run Tryz.prog (Op.equalIn (d+2) 155 (.agg #[.int .i64 a0,.int .i64 a1,.int .i64 a2,.int .i64 a3,.int .i64 a4,.int .i64 a5,.int .i64 a6,.int .i64 a7]) (.agg #[.int .i64 b0,.int .i64 b1,.int .i64 b2,.int .i64 b3,.int .i64 b4,.int .i64 b5,.int .i64 b6,.int .i64 b7])) w=.ok (a0==b0&&a1==b1&&a2==b2&&a3==b3&&a4==b4&&a5==b5&&a6==b6&&a7==b7) w:=by
 unfold Op.equalIn;simp only [Sem.run_bind,run_underlying und_ids,Result.andThen_ok];have hz:(Sem.run Tryz.prog (sizeOf 3) w)=.ok 1 w:=by go_simp
 have hp:=part_run;rw [hz];simp only [Result.andThen_ok,Std.Legacy.Range.forIn_eq_forIn_range',Std.Legacy.Range.size,Nat.mul_one];simp only [Nat.sub_zero,Nat.add_one_sub_one,Nat.div_one,List.range',List.forIn_cons,List.forIn_nil,Sem.run_bind,Nat.zero_add,Nat.reduceAdd,Nat.reduceSub,Nat.reduceDiv];rw [part_run _ 0 (.int .i64 a0) rfl rfl,Result.andThen_ok,part_run _ 0 (.int .i64 b0) rfl rfl,Result.andThen_ok,eqI_run,Result.andThen_ok]
 cases h0:a0==b0
 ·simp only [Bool.not_false,if_true,Sem.run_pure,Result.andThen_ok,Bool.false_and,Bool.true_and]
 simp only [Bool.not_true,Bool.false_eq_true,if_false,Sem.run_pure,Result.andThen_ok,Sem.run_bind,Bool.true_and];rw [part_run _ 1 (.int .i64 a1) rfl rfl,Result.andThen_ok,part_run _ 1 (.int .i64 b1) rfl rfl,Result.andThen_ok,eqI_run,Result.andThen_ok]
 cases h1:a1==b1
 ·simp only [Bool.not_false,if_true,Sem.run_pure,Result.andThen_ok,Bool.false_and,Bool.true_and]
 simp only [Bool.not_true,Bool.false_eq_true,if_false,Sem.run_pure,Result.andThen_ok,Sem.run_bind,Bool.true_and];rw [part_run _ 2 (.int .i64 a2) rfl rfl,Result.andThen_ok,part_run _ 2 (.int .i64 b2) rfl rfl,Result.andThen_ok,eqI_run,Result.andThen_ok]
 cases h2:a2==b2
 ·simp only [Bool.not_false,if_true,Sem.run_pure,Result.andThen_ok,Bool.false_and,Bool.true_and]
 simp only [Bool.not_true,Bool.false_eq_true,if_false,Sem.run_pure,Result.andThen_ok,Sem.run_bind,Bool.true_and];rw [part_run _ 3 (.int .i64 a3) rfl rfl,Result.andThen_ok,part_run _ 3 (.int .i64 b3) rfl rfl,Result.andThen_ok,eqI_run,Result.andThen_ok]
 cases h3:a3==b3
 ·simp only [Bool.not_false,if_true,Sem.run_pure,Result.andThen_ok,Bool.false_and,Bool.true_and]
 simp only [Bool.not_true,Bool.false_eq_true,if_false,Sem.run_pure,Result.andThen_ok,Sem.run_bind,Bool.true_and];rw [part_run _ 4 (.int .i64 a4) rfl rfl,Result.andThen_ok,part_run _ 4 (.int .i64 b4) rfl rfl,Result.andThen_ok,eqI_run,Result.andThen_ok]
 cases h4:a4==b4
 ·simp only [Bool.not_false,if_true,Sem.run_pure,Result.andThen_ok,Bool.false_and,Bool.true_and]
 simp only [Bool.not_true,Bool.false_eq_true,if_false,Sem.run_pure,Result.andThen_ok,Sem.run_bind,Bool.true_and];rw [part_run _ 5 (.int .i64 a5) rfl rfl,Result.andThen_ok,part_run _ 5 (.int .i64 b5) rfl rfl,Result.andThen_ok,eqI_run,Result.andThen_ok]
 cases h5:a5==b5
 ·simp only [Bool.not_false,if_true,Sem.run_pure,Result.andThen_ok,Bool.false_and,Bool.true_and]
 simp only [Bool.not_true,Bool.false_eq_true,if_false,Sem.run_pure,Result.andThen_ok,Sem.run_bind,Bool.true_and];rw [part_run _ 6 (.int .i64 a6) rfl rfl,Result.andThen_ok,part_run _ 6 (.int .i64 b6) rfl rfl,Result.andThen_ok,eqI_run,Result.andThen_ok]
 cases h6:a6==b6
 ·simp only [Bool.not_false,if_true,Sem.run_pure,Result.andThen_ok,Bool.false_and,Bool.true_and]
 simp only [Bool.not_true,Bool.false_eq_true,if_false,Sem.run_pure,Result.andThen_ok,Sem.run_bind,Bool.true_and];rw [part_run _ 7 (.int .i64 a7) rfl rfl,Result.andThen_ok,part_run _ 7 (.int .i64 b7) rfl rfl,Result.andThen_ok,eqI_run,Result.andThen_ok]
 cases h7:a7==b7
 ·simp only [Bool.not_false,if_true,Sem.run_pure,Result.andThen_ok,Bool.false_and,Bool.true_and]
 simp only [Bool.not_true,Bool.false_eq_true,if_false,Sem.run_pure,Result.andThen_ok,Sem.run_bind,Bool.true_and]
theorem run_ne_ids(a0 a1 a2 a3 a4 a5 a6 a7 b0 b1 b2 b3 b4 b5 b6 b7:Int)(w:World):Sem.run Tryz.prog (binOp .neq 155 (.agg #[.int .i64 a0,.int .i64 a1,.int .i64 a2,.int .i64 a3,.int .i64 a4,.int .i64 a5,.int .i64 a6,.int .i64 a7]) (.agg #[.int .i64 b0,.int .i64 b1,.int .i64 b2,.int .i64 b3,.int .i64 b4,.int .i64 b5,.int .i64 b6,.int .i64 b7])) w=.ok (.bool (!(a0==b0&&a1==b1&&a2==b2&&a3==b3&&a4==b4&&a5==b5&&a6==b6&&a7==b7))) w:=by
 have h1:=held_ids;have h3:=guard_ids;have h4:Sem.run Tryz.prog (Op.equalIn 10000 155 (.agg #[.int .i64 a0,.int .i64 a1,.int .i64 a2,.int .i64 a3,.int .i64 a4,.int .i64 a5,.int .i64 a6,.int .i64 a7]) (.agg #[.int .i64 b0,.int .i64 b1,.int .i64 b2,.int .i64 b3,.int .i64 b4,.int .i64 b5,.int .i64 b6,.int .i64 b7])) w=.ok (a0==b0&&a1==b1&&a2==b2&&a3==b3&&a4==b4&&a5==b5&&a6==b6&&a7==b7) w:=eq8_run 9998 a0 a1 a2 a3 a4 a5 a6 a7 b0 b1 b2 b3 b4 b5 b6 b7 w;generalize (a0==b0&&a1==b1&&a2==b2&&a3==b3&&a4==b4&&a5==b5&&a6==b6&&a7==b7)=r at h4 ⊢;go_simp
theorem run_neG_ids(op:BinOp)(x y:Operand)(xs ys:Array Value)(w:World):(eqGuard op 155 x y (.agg xs) (.agg ys)).run Tryz.prog w=.ok () w:=run_eqGuard_agg w op 155 x y xs ys guard_ids
def rd8(w:World)(g o:Nat):Option Value :=
 match w.cell? ⟨g,o+0,none⟩,w.cell? ⟨g,o+1,none⟩,w.cell? ⟨g,o+2,none⟩,w.cell? ⟨g,o+3,none⟩,w.cell? ⟨g,o+4,none⟩,w.cell? ⟨g,o+5,none⟩,w.cell? ⟨g,o+6,none⟩,w.cell? ⟨g,o+7,none⟩ with
 | some a,some b,some c,some d,some e,some f,some x,some y=>some (.agg #[a,b,c,d,e,f,x,y])
 | _,_,_,_,_,_,_,_=>none
theorem rd8_some{w:World}{g o:Nat}{v:Value}(h:rd8 w g o=some v):∃ cs:List Value,cs.length=8∧w.rangeAt g o cs∧v=.agg cs.toArray:=by
 unfold rd8 at h
 split at h
 ·rename_i a b c d e f x y h0 h1 h2 h3 h4 h5 h6 h7
  cases h
  refine ⟨[a,b,c,d,e,f,x,y],rfl,fun j v hv=>?_,rfl⟩
  match j,hv with
  | 0,hv=>cases hv;exact h0
  | 1,hv=>cases hv;exact h1
  | 2,hv=>cases hv;exact h2
  | 3,hv=>cases hv;exact h3
  | 4,hv=>cases hv;exact h4
  | 5,hv=>cases hv;exact h5
  | 6,hv=>cases hv;exact h6
  | 7,hv=>cases hv;exact h7
  | n+8,hv=>simp at hv
 ·cases h
def Rc.iv(x:Rc):Value:=.agg #[.int .i64 x.i0,.int .i64 x.i1,.int .i64 x.i2,.int .i64 x.i3,.int .i64 x.i4,.int .i64 x.i5,.int .i64 x.i6,.int .i64 x.i7]
theorem rd8_of{w:World}{g o:Nat}{x:Rc}(h:∀ j u,x.cells[j]? =some u→w.cell? ⟨g,o+j,none⟩=some u):rd8 w g o=some x.iv:=by
 unfold rd8;rw [h 0 _ rfl,h 1 _ rfl,h 2 _ rfl,h 3 _ rfl,h 4 _ rfl,h 5 _ rfl,h 6 _ rfl,h 7 _ rfl];rfl
noncomputable def slowI(w:World)(g o:Nat):Result Value:=(Instr.loadAt 155 (.pointer (some ⟨g,o,none⟩))).run Tryz.prog w
noncomputable def fastI(v:Value):Sem Value:=Instr.loadAt 155 v
theorem to_fastI(v:Value):Instr.loadAt 155 v=fastI v:=rfl
theorem ids_size:(Tryz.prog.info? 155).map (·.size)=some 8:=by kernel_rfl
theorem fast_loadI(w:World)(g o:Nat):(fastI (.pointer (some ⟨g,o,none⟩))).run Tryz.prog w=match rd8 w g o with
 | some v=>.ok v w
 | none=>slowI w g o:=by
 unfold fastI
 cases h:rd8 w g o with
 | none=>rfl
 | some v =>
   obtain ⟨cs,hl,hr,rfl⟩:=rd8_some h;exact run_loadAt_mid w g o 155 cs _ hr und_ids rfl (by rw [hl];exact ids_size)
theorem rd8_keep{w w':World}{g o:Nat}{v:Value}(h:rd8 w g o=some v)(hk:Keep w w'):rd8 w' g o=some v:=by
 obtain ⟨cs,hl,hr,rfl⟩:=rd8_some h;have hr':=rangeAt_keep hr hk
 match cs,hl with
 | [a,b,c,d,e,f,x,y],_ =>
   have h0:=hr' 0 _ rfl;have h1:=hr' 1 _ rfl;have h2:=hr' 2 _ rfl;have h3:=hr' 3 _ rfl;have h4:=hr' 4 _ rfl;have h5:=hr' 5 _ rfl;have h6:=hr' 6 _ rfl;have h7:=hr' 7 _ rfl;unfold rd8;rw [h0,h1,h2,h3,h4,h5,h6,h7]
theorem rd8_drewN{w:World}{g o k:Nat}{v:Value}(h:rd8 w g o=some v):rd8 (w.drewN k) g o=some v:=rd8_keep h (by repeat first|exact kp0|apply kp1|apply kp2|apply kp3|apply kp4)
theorem rd8_gro{w:World}{p:GB}{g o:Nat}{v:Value}(h:rd8 w g o=some v):rd8 (w.gro p) g o=some v:=rd8_keep h (by repeat first|exact kp0|apply kp1|apply kp2|apply kp3|apply kp4)
theorem rd8_drew(w:World)(g o:Nat):rd8 w.drew g o=rd8 w g o:=rfl
def eq8(x y:Rc):Bool:=x.i0==y.i0&&x.i1==y.i1&&x.i2==y.i2&&x.i3==y.i3&&x.i4==y.i4&&x.i5==y.i5&&x.i6==y.i6&&x.i7==y.i7
theorem eq8_ids(x y:Rc):eq8 x y=true↔x.ids=y.ids:=by
 simp [eq8,Rc.ids,and_assoc]
theorem run_ne_iv(x y:Rc)(w:World):Sem.run Tryz.prog (binOp .neq 155 x.iv y.iv) w=.ok (.bool (!eq8 x y)) w:=run_ne_ids _ _ _ _ _ _ _ _ _ _ _ _ _ _ _ _ w
theorem run_neG_iv(op:BinOp)(a b:Operand)(x y:Rc)(w:World):(eqGuard op 155 a b x.iv y.iv).run Tryz.prog w=.ok () w:=run_neG_ids op a b _ _ w
end Go.Proofs.YtpkocnpamcchcaaGreatDoor
namespace Go.Sym
theorem sins_congr{α:Type}{lt lt2:α→α→Bool}(x:α):∀ (l:List α),(∀ y∈l,lt y x=lt2 y x)→sins lt x l=sins lt2 x l
 | [],_=>rfl
 | y :: r,h=>by
   unfold sins;rw [h y (by simp),sins_congr x r fun z hz=>h z (by simp [hz])]
theorem ssort_congr{α:Type}{lt lt2:α→α→Bool}:∀ (l:List α),(∀ a∈l,∀ b∈l,lt a b=lt2 a b)→ssort lt l=ssort lt2 l
 | [],_=>rfl
 | x :: r,h=>by
   unfold ssort;rw [← ssort_congr r fun a ha b hb=>h a (by simp [ha]) b (by simp [hb])];exact sins_congr x _ fun y hy=>h y (List.mem_cons_of_mem _ ((ssort_perm r).mem_iff.1 hy)) x (by simp)
end Go.Sym
namespace Go.Star
theorem loop_pre{g:Nat→Nat→List SR→Nat→List SR × List SN}{d tp n:Nat}(hg:∀ a e rs n,∃ x,(g a e rs n).1=rs++x):∀ (f at_:Nat) (kids:List (Int × Nat)) (rs:List SR) (ns:List SN),
 (∃ x,(loopF g d tp n f at_ kids rs ns).1=kids++x)∧(∃ y,(loopF g d tp n f at_ kids rs ns).2.1=rs++y)∧(∃ z,(loopF g d tp n f at_ kids rs ns).2.2=ns++z)
 | 0,_,_,_,_=>⟨⟨[],by simp [loopF]⟩,⟨[],by simp [loopF]⟩,⟨[],by simp [loopF]⟩⟩
 | f+1,at_,kids,rs,ns=>by
   unfold loopF
   split
   ·simp only [];generalize endF rs d (idAt rs at_ d) tp (tp-at_) at_=e;obtain ⟨x,hx⟩:=hg at_ e rs (n+1+ns.length);obtain ⟨⟨a,ha⟩,⟨b,hb⟩,⟨c,hc⟩⟩:=loop_pre hg f e (kids++[(idAt rs at_ d,n+1+ns.length)]) (g at_ e rs (n+1+ns.length)).1 (ns++(g at_ e rs (n+1+ns.length)).2);exact ⟨⟨_,by rw [ha,List.append_assoc]⟩,⟨x++b,by rw [hb,hx,List.append_assoc]⟩,⟨_,by rw [hc,List.append_assoc]⟩⟩
   ·exact ⟨⟨[],by simp⟩,⟨[],by simp⟩,⟨[],by simp⟩⟩
theorem grow_pre(leaf:Nat):∀ (f depth lo hi:Nat) (st:Bool) (rs:List SR) (n:Nat),∃ x,(growF leaf f depth lo hi st rs n).1=rs++x
 | 0,_,_,_,_,rs,_=>⟨[],by simp [growF]⟩
 | f+1,depth,lo,hi,st,rs,n=>by
   unfold growF
   split
   ·exact ⟨[],by simp⟩
   ·simp only [];obtain ⟨_,⟨y,hy⟩,_⟩:=loop_pre (g:=fun a e rs n=>growF leaf f (depth+1) a e st rs n) (d:=depth) (tp:=hi) (n:=n) (fun a e rs n=>grow_pre leaf f (depth+1) a e st rs n) (hi-lo) lo [] rs []
    split
    ·exact ⟨y,hy⟩
    ·generalize togF _=L;obtain ⟨z,hz⟩:=grow_pre leaf f (depth+1) (loopF (fun a e rs n=>growF leaf f (depth+1) a e st rs n) depth hi n (hi-lo) lo [] rs []).2.1.length ((loopF (fun a e rs n=>growF leaf f (depth+1) a e st rs n) depth hi n (hi-lo) lo [] rs []).2.1.length+L.length) true ((loopF (fun a e rs n=>growF leaf f (depth+1) a e st rs n) depth hi n (hi-lo) lo [] rs []).2.1++L) (n+1+(loopF (fun a e rs n=>growF leaf f (depth+1) a e st rs n) depth hi n (hi-lo) lo [] rs []).2.2.length);refine ⟨y++(L++z),?_⟩;simp only [hz];rw [hy];simp
theorem wN_ge:∀ ns:List SN,13*ns.length≤wN ns
 | []=>by simp [wN]
 | x :: r=>by
   have:=wN_ge r;rw [wN_cons];simp only [List.length_cons];omega
theorem grow_few(leaf k:Nat)(hl:1≤leaf)(hk:k≤8)(rs:List SR)(hr:rs.length≤1000):(growF leaf k 0 0 rs.length false rs 0).1.length≤1000000∧(growF leaf k 0 0 rs.length false rs 0).2.length≤1000000:=by
 have h:=grow_adds leaf 0 0 hl k 0 0 rs.length rs 0 (Nat.zero_le _) (Nat.le_refl _);obtain ⟨x,hx,hxl⟩:=h.pre;have hw:=h.wt;have hge:=wN_ge (growF leaf k 0 0 rs.length false rs 0).2;have h1:(rs.length-0)*k≤1000*8:=Nat.mul_le_mul (by omega) hk;have hs:=sumU_le k;have h2:(k+1)*(k+1)≤9*9:=Nat.mul_le_mul (by omega) (by omega);have h3:(rs.length-0)*sumU k≤1000*81:=Nat.mul_le_mul (by omega) (by omega);refine ⟨?_,by omega⟩;rw [hx,List.length_append];omega
def upd(ys xs:List (Int × Int × Int))(i:Nat):List (Int × Int × Int):=List.zipWith addS (ys.take i) (xs.take i)++ys.drop i
theorem upd_zero(ys xs:List (Int × Int × Int)):upd ys xs 0=ys:=by simp [upd]
theorem upd_len(ys xs:List (Int × Int × Int))(h:xs.length=ys.length)(i:Nat):(upd ys xs i).length=ys.length:=by
 simp [upd];omega
theorem upd_get(ys xs:List (Int × Int × Int))(h:xs.length=ys.length)(i:Nat)(hi:i<ys.length):(upd ys xs i)[i]? =some ys[i]:=by
 unfold upd;rw [List.getElem?_append_right (by simp;omega)];simp only [List.length_zipWith,List.length_take,List.getElem?_drop];rw [show i+(i-min (min i ys.length) (min i xs.length))=i by omega];exact List.getElem?_eq_getElem hi
theorem upd_succ(ys xs:List (Int × Int × Int))(h:xs.length=ys.length)(i:Nat)(hi:i<ys.length)(hx:i<xs.length):upd ys xs (i+1)=(upd ys xs i).set i (addS ys[i] xs[i]):=by
 unfold upd;rw [List.take_succ_eq_append_getElem hi,List.take_succ_eq_append_getElem hx,List.zipWith_append (by simp;omega)];rw [List.set_append_right _ _ (by simp;omega)];simp only [List.length_zipWith,List.length_take];rw [show i-min (min i ys.length) (min i xs.length)=0 by omega];simp only [List.append_assoc,List.zipWith_cons_cons,List.zipWith_nil_left];rw [List.drop_eq_getElem_cons hi,List.set_cons_zero];rfl
theorem upd_all(ys xs:List (Int × Int × Int))(h:xs.length=ys.length):upd ys xs xs.length=List.zipWith addS ys xs:=by
 unfold upd;rw [List.take_of_length_le (by omega),List.take_of_length_le (by omega),List.drop_of_length_le (by omega),List.append_nil]
theorem tog_take(S:List SR)(k:Nat)(h:k<S.length)(o:List SR):(S.take (k+1)).foldl togStep o=togStep ((S.take k).foldl togStep o) S[k]:=by
 rw [List.take_succ_eq_append_getElem h,List.foldl_append];rfl
theorem endF_step(rs:List SR)(d:Nat)(id:Int)(tt e:Nat)(h:e<tt)(hi:idAt rs e d=id):endF rs d id tt (tt-e) e=endF rs d id tt (tt-(e+1)) (e+1):=by
 rw [show tt-e=tt-(e+1)+1 by omega]
 conv=>lhs;unfold endF
 rw [if_pos ⟨h,hi⟩]
theorem endF_stop(rs:List SR)(d:Nat)(id:Int)(tt e:Nat)(h:e=tt∨idAt rs e d≠id):endF rs d id tt (tt-e) e=e:=by
 rcases Nat.eq_zero_or_pos (tt-e) with h0|h0
 ·rw [h0];rfl
 ·rw [show tt-e=tt-e-1+1 by omega];unfold endF
  rw [if_neg (by rintro ⟨h1,h2⟩;rcases h with h|h; · omega
                 ·exact h h2)]
end Go.Star
