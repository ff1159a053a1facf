/- BuildOrder: for every input the law answers true, and what it is handed reads as before; the tables that the program's own text lays are tied. No condition. -/
import Derived.ProofKit
import Derived.LaidMore
import Derived.OpenShut
import Derived.SevenTiedAt
import Derived.MakeChecks
import Derived.Stop.LaidErr
import Derived.Test.YtpkocnpamcchcaaGreatDoorRows
import Derived.Test.YtpkocnpamcchcaaGreatDoorCards
import Derived.Test.YtpkocnpamcchcaaGreatDoorTie
import Derived.Test.YtpkocnpamcchcaaGreatDoorK50
set_option maxRecDepth 100000
set_option maxHeartbeats 4000000
set_option linter.unusedSimpArgs false
set_option linter.unusedVariables false
set_option linter.unnecessarySimpa false
namespace Go.Proofs.YtpkocnpamcchcaaGreatDoor
open Go.ChangeShapes Go.WideShapes Go.ChangeAt Go.RowKit Go.Zone Go.ChangeMaps
theorem tabs_met{W:World}(h:laidMetH Tryz.prog Rows.buildOrderRow.laid W):TabP W∧Tab W:=by
 rw [Go.MakeChecks.laidMetH_plain _ _ _ (by kernel_rfl)] at h;have h1:laidMet Tryz.prog (("math/bits.deBruijn64tab",Rows.laid_math_bits_deBruijn64tab) :: ("internal/strconv.uint64pow10",Rows.laid_internal_strconv_uint64pow10) :: []) W:=h.tail;have h2:laidMet Tryz.prog (("internal/strconv.uint64pow10",Rows.laid_internal_strconv_uint64pow10) :: []) W:=h1.tail;have e1:(Rows.laid_math_bits_deBruijn64tab:DataW Unit)=Lib.tabData .u8 (tabL.map fun n:Nat=>(n:Int)):=rfl;have e2:(Rows.laid_internal_strconv_uint64pow10:DataW Unit)=Lib.tabData .u64 Lib.pow10Tab:=rfl;rw [e1] at h1;rw [e2] at h2;refine ⟨Lib.tabIs_of_head (t:=290) (e:=47) (n:=20) rfl (by kernel_rfl) (by kernel_rfl) (by kernel_rfl) (by kernel_rfl) (by kernel_rfl) h2,fun j hj=>?_⟩;have hg:Tryz.prog.globalNamed "math/bits.deBruijn64tab"=some 2:=by kernel_rfl
 have h3:=Lib.tabIs_of_head (t:=341) (e:=5) (n:=64) hg (by kernel_rfl) (by kernel_rfl) (by kernel_rfl) (by kernel_rfl) (by kernel_rfl) h1;have hl:j<tabL.length:=hj;have h4:=h3.cell hg j (by rw [List.length_map];exact hl);rw [h4]
 congr 2
 rw [List.getD_eq_getElem?_getD,List.getElem?_map,List.getElem?_eq_getElem hl,List.getD_eq_getElem?_getD,List.getElem?_eq_getElem hl];rfl
theorem shape_lt{w:World}{b:Nat}{x:TypeId × Nat}(h:w.shape? b=some x):b<w.heap.size:=by
 rcases Nat.lt_or_ge b w.heap.size with h1|h1
 ·exact h1
 ·unfold World.shape? at h;rw [Array.getElem?_eq_none h1] at h
  cases h
theorem flag_lt{w:World}{r:Reach}{b0:Nat}{A:Option Addr}{n c:Nat}(h:Cell.okWide Tryz.prog w r b0 23 (.slice A n c)):∀ bb off,A=some ⟨bb,off,none⟩→bb<w.heap.size:=fun bb off e=>by
 subst e;unfold Cell.okWide at h;rw [u_bools] at h;simp only at h;unfold Cell.ok at h;rw [u_bools] at h;simp only at h;obtain ⟨_,_,_,_,row,cells,hs,_⟩:=h;exact shape_lt hs
theorem cfg_lt{w:World}{r:Reach}{b0:Nat}{c:Cfg}(hv:Value.okWide Tryz.prog w r b0 26 c.v):(∀ bb off,c.iA=some ⟨bb,off,none⟩→bb<w.heap.size)∧∀ bb off,c.rA=some ⟨bb,off,none⟩→bb<w.heap.size:=by
 obtain ⟨f0,f1,f2,f3,f4,hs,_⟩:=u_cfg;unfold Value.okWide at hv;rw [hs] at hv;simp only at hv;obtain ⟨cs,e,_,ts,hts,_,hrow⟩:=hv;have ht:Tryz.prog.cellTypes Tryz.prog.depth 26=some [3,23,23,24,3]:=by kernel_rfl
 rw [ht] at hts;injection hts with hts;subst hts;obtain ⟨s0,iA,ic,iv,rA,rc,rv,sA,sc,sp,lf⟩:=c;simp only [Cfg.v] at e;injection e with e;subst e;obtain ⟨u1,hu1,h1⟩:=hrow 1 _ rfl;obtain ⟨u2,hu2,h2⟩:=hrow 2 _ rfl;injection hu1 with hu1;injection hu2 with hu2;subst hu1;subst hu2;exact ⟨flag_lt h1,flag_lt h2⟩
theorem door_met(os:Os)(args:Array Value):laidMetH Tryz.prog Rows.buildOrderRow.laid ((World.doorLaid Tryz.prog 24 os).forCall (fun _ _=>0) ⟨#[],args,[]⟩).memory :=
 laidMetH_of_parts3 (fuel:=8) (laidMet_of_run' 8 (by kernel_rfl) (by kernel_rfl)) (by kernel_rfl) (by kernel_rfl)
theorem pars_fits:Tryz.f4.params=#[22,26,27,27]:=by kernel_rfl
theorem order_lifted(os:Os)(started:os.Started)(H:Type)(enc:TypeId × Value→H) :
 ReturnsInHanded {} Tryz.checked os 4 .any (fun w args=>(Rows.buildOrderSpec.pre enc Tryz.prog Tryz.f4 Rows.buildOrderRow.domain false w args∧laidMetH Tryz.prog Rows.buildOrderRow.laid w)∧sizedMet enc Tryz.prog Tryz.f4 (OpenSpec.ofChange Rows.buildOrderSpec) false w args)
  (Rows.buildOrderSpec.post enc Tryz.prog Tryz.f4 false true false false):=by
 refine returnsInHanded_of_change_and (C:=Tryz.checked) (X:=fun w _=>laidMetH Tryz.prog Rows.buildOrderRow.laid w) (fun _ _ _ hh h=>h.of_heap hh) own_ started (by kernel_rfl) Tryz.func4
  (ChangeSpec.witness_shaped (enc:=enc) (C:=Tryz.checked) (os:=os) (X:=fun w _=>laidMetH Tryz.prog Rows.buildOrderRow.laid w) false (World.doorLaid Tryz.prog 24 os) #[.slice none 0 0,.agg #[.int .i64 0,.slice none 0 0,.slice none 0 0,.slice none 0 0,.int .i64 0],.slice none 0 0,.slice none 0 0] 8 rfl (World.shaped_of_RefB (by kernel_rfl) (by kernel_rfl)) (by kernel_rfl) (by kernel_rfl) (by kernel_rfl) (door_met os _)) ?_
 intro W base args ds gs before hval0 hW _ hz hX _;have hval:∀ (j:Nat) t v,Tryz.f4.params[j]? =some t→args[j]? =some v→Value.okWide Tryz.prog W .any base t v:=hval0;have hW':=hW;obtain ⟨p,q0,hA0,hV,rfl,hfz,hnd⟩:=hW;have hA:DataW.TrodAll enc Tryz.prog W 0 (fun _=>true) true Tryz.f4.params.toList args.toList ds p:=hA0;rw [pars_fits] at hA hval;obtain ⟨v0,v1,v2,v3,d0,d1,d2,d3,p0,p1,p2,p3,rfl,rfl,rfl,h0,h1,h2,h3⟩:=trodAll_four hA;obtain ⟨rfl,rfl⟩:=trodVars_none hV;have hb:∀ x∈p0++p1++p2++p3++[],x.block<W.heap.size:=fun x hx=>by simpa using hW'.lt x hx
 have hz':=List.all_eq_true.1 hz;have hwt:∀ (j:Nat) (t:TypeId) (d:DataW H),(Tryz.f4.params.toList++Rows.buildOrderSpec.plain.varTypes Tryz.prog)[j]? =some t→([d0,d1,d2,d3]++[])[j]? =some d→∀ n∈d.weights Tryz.prog t,n≤reachBytes:=fun j t d ht hd n hn=>by
  simpa using hz' _ (DataW.weights_mem_each ht hd n hn)
 obtain ⟨A,n,cs,rfl,hS,hx⟩:=open_cols (hval 0 _ v0 rfl rfl) h0 (hwt 0 _ d0 rfl rfl);obtain ⟨c,rfl,hC⟩:=open_cfg (hval 1 _ v1 rfl rfl) h1 (hwt 1 _ d1 rfl rfl);obtain ⟨B,m,rows,rfl,hR,hRA,hWF⟩:=open_rows (hval 2 _ v2 rfl rfl) h2 (hwt 2 _ d2 rfl rfl);obtain ⟨C,q,oth,rfl,hO,hOA,hWO⟩:=open_rows (hval 3 _ v3 rfl rfl) h3 (hwt 3 _ d3 rfl rfl);obtain ⟨hiA,hrA⟩:=cfg_lt (hval 1 _ c.v rfl rfl);obtain ⟨htab,htb⟩:=tabs_met hX;clear hA0 hval0 hz hz' hwt;simp only [List.append_nil] at hW';refine (order_law A B C n m q cs c rows oth W hS hx hC hiA hrA hR hRA hWF hO hOA hWO htab htb).mono fun e W' ⟨he,hg⟩=>?_;subst he
 exact ⟨_,rfl,post_of_below (pa:=p0++p1++p2++p3) (pv:=[]) hW' (fun _ _ _=>trodAll_mk1 (shut_bool u_bool _))
  (fun sp hsp=>by
    have:=trodAll_mk4 (stays laid_ (by kernel_rfl) (of_decide_eq_true (by kernel_rfl)) h0 hg (fun y hy=>hb y (by simp [hy])) (sp:=sp) (fun y hy=>hsp y (by simp [hy])))
       (stays laid_ (by kernel_rfl) (of_decide_eq_true (by kernel_rfl)) h1 hg (fun y hy=>hb y (by simp [hy])) (sp:=sp) (fun y hy=>hsp y (by simp [hy])))
       (stays laid_ (by kernel_rfl) (of_decide_eq_true (by kernel_rfl)) h2 hg (fun y hy=>hb y (by simp [hy])) (sp:=sp) (fun y hy=>hsp y (by simp [hy])))
       (stays laid_ (by kernel_rfl) (of_decide_eq_true (by kernel_rfl)) h3 hg (fun y hy=>hb y (by simp [hy])) (sp:=sp) (fun y hy=>hsp y (by simp [hy])))
    rw [← List.append_assoc,← List.append_assoc] at this
    first
       | exact this
       | (rw [List.append_nil] at this;exact this)
       | (rw [List.nil_append,List.append_nil] at this;exact this)) (fun _ _=>rfl) (by simp)
  hg (ok_one (by kernel_rfl) rfl (okWide_bool_mk u_bool _))⟩
theorem jf_place:(Rows.buildOrderRow.inPlace==Tryz.prog.inPlace 4)=true:=by kernel_rfl
theorem jf_unfollowed:(Rows.buildOrderRow.unfollowed==Tryz.prog.unfollowed 4)=true:=by kernel_rfl
theorem jf_recurses:(Rows.buildOrderRow.recurses==Tryz.prog.recurses 4)=true:=by kernel_rfl
theorem jf_named:(Rows.buildOrderRow.named==Tryz.prog.varsNamed 4)=true:=by kernel_rfl
theorem jf_looks:false=Tryz.prog.looks []:=by kernel_rfl
theorem jf_goes:false=Rows.buildOrderRow.goesBy Tryz.prog:=by kernel_rfl
theorem jf_all:joinedFacts Tryz.prog 4 Tryz.f4 Rows.buildOrderSpec Rows.buildOrderRow=true:=by
 unfold joinedFacts;simp only [Bool.and_eq_true]
 and_intros
 all_goals first
  | with_reducible exact jf_place
  | with_reducible exact jf_unfollowed
  | with_reducible exact jf_recurses
  | with_reducible exact jf_named
  | kernel_rfl
theorem order_row:Rows.BuildOrderSaid :=
 OpenClaim.holds_of_wide 4 Tryz.f4 rfl rfl rfl rfl rfl rfl rfl ⟨rfl,rfl,rfl,rfl,rfl⟩ rfl rfl rfl rfl rfl (by kernel_rfl) Tryz.func4 jf_all
  (of_decide_eq_true (by kernel_rfl)) (by unfold Func.isWrapper;first|(rw [if_pos (by decide +kernel)];kernel_rfl)|(rw [if_neg (by decide +kernel)];exact ⟨rfl,rfl⟩))
  (fun os started H enc _=>order_lifted os started H enc)
theorem order_holds:Rows.BuildOrderCardSaid :=
 Claim7.holds_tied_plain_at .later [] [.data,.data,.data] true Rows.buildOrderCard.stood.harness false
  order_row (fun _ h=>by cases h) (by kernel_rfl) (fun _ h=>by cases h) buildOrder_row_tie rfl ⟨rfl,rfl⟩ (by kernel_rfl) rfl
  (fun f fn hf hfn=>by
    obtain rfl:f=4:=Option.some.inj ((show Tryz.prog.funcNamed "isinglass/isinglasslaw22.BuildOrder"=some 4 by kernel_rfl).symm.trans hf) |>.symm
    obtain rfl:fn=Tryz.f4:=(Option.some.inj (Tryz.func4.symm.trans hfn)).symm;exact ⟨jf_looks,fun j t ht=>by
     rw [pars_fits] at ht;have hm:t∈[22,26,27,27]:=by simpa using Array.mem_of_getElem? ht
     have hall:([22,26,27,27].all fun u=>!Tryz.prog.wantsStandIn u)=true:=by kernel_rfl
     exact (show Tryz.prog.wantsStandIn t=false by simpa using List.all_eq_true.1 hall t hm)⟩)
  jf_goes
#print axioms order_holds
end Go.Proofs.YtpkocnpamcchcaaGreatDoor
