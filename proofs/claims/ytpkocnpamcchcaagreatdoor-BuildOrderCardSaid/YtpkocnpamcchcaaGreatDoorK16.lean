/- Parts of the proof. -/
import Derived.Shelf.Strconv.Itoa3
import Derived.Test.YtpkocnpamcchcaaGreatDoorK15
set_option maxRecDepth 100000
set_option maxHeartbeats 4000000
set_option linter.unusedSimpArgs false
set_option linter.unusedVariables false
set_option linter.unnecessarySimpa false
namespace Go.Proofs.YtpkocnpamcchcaaGreatDoor
open Go.RowKit Go.Zone Go.Shelf
attribute [local go_sem] zone stepZ fill lookFs goes goesUpon dropFs cell_gro frozen_gro size_gro lt_add drew_gro tape_gro keep_refl
attribute [local go_sem] lt_add2 lt_add3 lt_add4 lt_add5 lt_add6 lt_add7 lt_add8 lt_add9 lt_add10 lt_add11 lt_add12
def ltL(s:Nat)(a b:List Val):Bool:=decide (cmpV (a.getD s zeroVal) (b.getD s zeroVal)<0)
def sortF(s:Int)(rows:List (List Val)):List (List Val):=if 0≤s then Sym.ssort (ltL s.toNat) rows else rows
def cmR(s:Nat)(x y:Rw):Int:=cmpV (x.vs.getD s zeroVal) (y.vs.getD s zeroVal)
theorem ordV:Sym.Ord (fun x y:Val=>decide (cmpV x y<0)):=by
 constructor
 ·intro a b h;rw [decide_eq_true_iff,cmpV_lt] at h;rw [decide_eq_false_iff_not,cmpV_lt];exact fun k=>LtV.irrefl _ (h.trans k)
 ·intro a b c h1 h2;rw [decide_eq_false_iff_not,cmpV_lt] at h1 h2 ⊢;intro h3
  rcases LtV.tri a b with h|h|h
  ·exact h2 (h3.trans h)
  ·subst h;exact h2 h3
  ·exact h1 h
theorem ordL(s:Nat):Sym.Ord (ltL s):=⟨fun a b=>ordV.asym _ _,fun a b c=>ordV.trans _ _ _⟩
theorem ordR(s:Nat):Sym.Ord (ltC (cmR s)):=⟨fun a b=>ordV.asym _ _,fun a b c=>ordV.trans _ _ _⟩
theorem srt1_any(g0 s:Nat)(x y:Rw)(w:World)(hc:w.cell? ⟨g0,0,none⟩=some (.int .i64 s))(hx:Sl w 3 Val.cells x.A x.c x.vs)(hy:Sl w 3 Val.cells y.A y.c y.vs)(hsx:s<x.vs.length)(hsy:s<y.vs.length) :
 Calls Tryz.prog 62 (#[.slice x.A x.vs.length x.c,.slice y.A y.vs.length y.c]++#[.pointer (some ⟨g0,0,none⟩)]) w fun e w'=>e=.returned (.int .i64 (cmR s x y))∧Keep w w':=by
 obtain ⟨xA,xc,xv⟩:=x;obtain ⟨yA,yc,yv⟩:=y;simp only at hx hy hsx hsy;obtain ⟨bx,ox,hAx,hbx,c0,c1,c2⟩:=sl_val hx s hsx;obtain ⟨bY,oY,hAY,hbY,d0,d1,d2⟩:=sl_val hy s hsy;subst hAx;subst hAY;have HCM:=lh (show cmR s ⟨some ⟨bx,ox,none⟩,xc,xv⟩ ⟨some ⟨bY,oY,none⟩,yc,yv⟩=cmpV xv[s] yv[s] by unfold cmR;simp [hsx,hsy]);rw [show cmR s ⟨some ⟨bx,ox,none⟩,xc,xv⟩ ⟨some ⟨bY,oY,none⟩,yc,yv⟩=cmpV xv[s] yv[s] from HCM.out];have HC:=lh (fun W=>compare_any xv[s] yv[s] W);have hg:=block_lt_of_cell hc;generalize xv[s]=u at c0 c1 c2 HC ⊢;generalize yv[s]=v at d0 d1 d2 HC ⊢;obtain ⟨uk,un,us⟩:=u;obtain ⟨vk,vn,vs⟩:=v;simp only at c0 c1 c2 d0 d1 d2;clear HCM hx hy;show Calls Tryz.prog 62 #[.slice (some ⟨bx,ox,none⟩) xv.length xc,.slice (some ⟨bY,oY,none⟩) yv.length yc,.pointer (some ⟨g0,0,none⟩)] w _;go_enter Tryz.func62,Tryz.ntmps62;go_wp2
 first|refine Zone.wp_region_all_gro (by kernel_rfl) (by kernel_rfl) ?_|refine Zone.wp_region_all (by kernel_rfl) (by kernel_rfl) ?_
 repeat
  refine Zone.wpZ_step (fun K hK=>?_);go_simp
  first
  | (refine hK _ _ ?_;clear hK K)
  | (apply Exists.intro
     refine ⟨fun p=>?_,hK _ _ ?_⟩
     ((go_at_call 63;exact Zone.zc (HC.out _)))
     clear hK K)
 refine Zone.wpZ_nil ?_;intro p;simp only [Zone.fill];go_wp2;go_ret;exact ⟨rfl,(by repeat first|exact kp0|apply kp1|apply kp2|apply kp3|apply kp4)⟩
theorem ssf_any(f:Nat)(lb:Array Value)(cm:Rw→Rw→Int)(M:Rw→Prop)(w0:World)(g c base n:Nat)(xs:List Rw)(w:World)(ho:Sym.Ord (ltC cm))(hc:CmpOk f lb cm M w0 g)(hM:∀ x∈xs,M x)(ht:Turn w0 w [g])(hN:xs.length=n)(h:OwnR w base (.slice (some ⟨g,0,none⟩) n c) xs)(hl:n≤1000000000) :
 Calls Tryz.prog 61 #[.slice (some ⟨g,0,none⟩) n c,.func (.func f) #[] lb] w fun e w'=>e=.returned (.tuple #[])∧OwnR w' base (.slice (some ⟨g,0,none⟩) n c) (Sym.ssort (ltC cm) xs)∧Turn w w' [g]:=by
 have HS:=lh (stab_any f lb cm M w0 g c base n xs w ho hc hM ht hN h hl);have HO:=lh ho;clear ho hc hM ht hN h hl;go_enter Tryz.func61,Tryz.ntmps61;go_wp2_with (go_at_call 104;refine hold ?_);refine unhold ?_;refine HS.out.mono ?_;rintro e w' ⟨rfl,ys,hs,hown,hT⟩;have HY:=lh (Sym.stb_ssort HO.out hs);have HOW:=lh hown;have HT:=lh hT;clear hs hown hT HS;go_wp2;go_end0;exact ⟨rfl,by rw [← HY.out];exact HOW.out,HT.out⟩
theorem bad_no{cs:List Col}{rows:List (List Val)}(h:tErr cs rows=0):∀ r∈rows,r.length=cs.length:=fun r hr=>by
 unfold tErr at h
 split at h
 ·cases h
 ·split at h
  ·cases h
  ·rename_i hb;have hb2:badRow cs r=false:=by
    cases hq:badRow cs r
    ·rfl
    ·exact absurd (List.any_eq_true.2 ⟨r,hr,hq⟩) hb
   unfold badRow at hb2;rw [Bool.or_eq_false_iff] at hb2
   simpa using hb2.1
theorem tsort_by(A B:Option Addr)(n m s:Nat)(cs:List Col)(c:Cfg)(rows:List Rw)(w:World)(h:Sl w 2 Col.cells A n cs)(hz:∀ x∈cs,x.name.size≤140737488355328)(hc:CfgAt w c)(hf:Fits cs c)(hs:c.sort=(s:Int))(hsl:s<cs.length)
 (hr:Sl w 1 Rw.cells B m rows) (hra:RowsAt w rows) (hl:rows.length≤1000000000) (hrl:∀ r∈rows,r.vs.length≤1000000000) (he:tErr cs (rows.map (·.vs))=0) :
 Calls Tryz.prog 28 #[.slice A cs.length n,c.v,.slice B rows.length m] w fun e w'=>∃ g,e=.returned (.tuple #[.slice (some ⟨g,0,none⟩) rows.length rows.length,.int .i64 0])∧∃ L,OwnR w' w.heap.size (.slice (some ⟨g,0,none⟩) rows.length rows.length) L∧(∀ r∈L,NewRow w' w.heap.size r)∧L.map (·.vs)=Sym.ssort (ltL s) (rows.map (·.vs))∧Keep w w':=by
 have HF:=lh (fun W (hW:Keep w W)=>fits_any A n cs c W (h.keep hW) hz (hc.keep hW));have HM:=lh (fun W (hW:Keep w W)=>tmay_any A B n m cs rows W (h.keep hW) hz (hr.keep hW) (hra.keep hW));have HC:=lh (fun W (hW:Keep w W)=>tcopy_any B m rows W (hr.keep hW) (hra.keep hW) hl hrl);have hq:=pB_yes hf;have HLEN:=lh (bad_no he);have HRL:=lh hrl;have HSL:=lh hsl;rw [he] at HM;obtain ⟨s0,iA,ic,iv,rA,rc,rv,sA,sc,sp,lf⟩:=c;simp only at hs;subst hs;simp only [Cfg.v];clear h hc hf hr hra hrl he hsl;go_enter Tryz.func28,Tryz.ntmps28;go_upto_region 1 with fail;have hB:BoxA w (w.alloc (.cells #[.int .i64 s,.slice iA iv.length ic,.slice rA rv.length rc,.slice sA sp.length sc,.int .i64 lf] 26)) [.int .i64 s,.slice iA iv.length ic,.slice rA rv.length rc,.slice sA sp.length sc,.int .i64 lf]:=BoxA.start (t:=26) (Keep.refl _);generalize hwb:World.alloc w _=wb at hB ⊢;have hbs:=hB.lt;have x0:=hB.at_ 0 _ rfl;have x1:=hB.at_ 1 _ rfl;have x2:=hB.at_ 2 _ rfl;have x3:=hB.at_ 3 _ rfl;have x4:=hB.at_ 4 _ rfl;have HKB:=lh hB.keep;have HX0:=lh x0;clear hwb hB;generalize hgz:w.heap.size=g0 at hbs x0 x1 x2 x3 x4 HX0 ⊢;have HGZ:=lh hgz;clear hgz;go_wp2_with (go_at_call 55;refine hold ?_);refine unhold ?_;refine (HF.out _ HKB.out).mono ?_;rintro e w0 ⟨rfl,hk0⟩;have HK0:=lh hk0;clear x0 x1 x2 x3 x4 HF hk0;go_wp2_with (go_at_call 59;refine hold ?_);refine unhold ?_;refine (HM.out _ (HKB.out.trans HK0.out)).mono ?_;rintro e w1 ⟨rfl,hk1⟩;have HK1:=lh (HK0.out.trans hk1);clear hk1
 go_wp2_with (go_at_call 60;refine hold ?_);refine unhold ?_;refine (HC.out _ (HKB.out.trans HK1.out)).mono ?_;rintro e w2 ⟨g,rfl,L,hown,hnew,hvs,hk2⟩;have HK2:=lh (HK1.out.trans hk2);have HZ:=lh (HKB.out.trans HK1.out).size;have hbw1:g0<w1.heap.size:=Nat.lt_of_lt_of_le hbs HK1.out.size;have y0:=box_cell HK2.out hbs HX0.out;have hgw:g0<w2.heap.size:=block_lt_of_cell y0;have hlen:L.length=rows.length:=by have:=congrArg List.length hvs;simpa using this
 have hgb:w1.heap.size≤g:=(hown.lt g rfl).1;have HOK:=lh (show ∀ W,Keep w2 W→CmpOk 62 #[.pointer (some ⟨g0,0,none⟩)] (cmR s) (fun x=>Sl W 3 Val.cells x.A x.c x.vs∧s<x.vs.length∧∀ bb off,x.A=some ⟨bb,off,none⟩→bb≠g) W g from fun W hW=>by
  refine ⟨enters_of Tryz.func62 (by kernel_rfl) rfl,fun W' x y hx hy ht=>?_⟩;refine srt1_any g0 s x y W' ?_ (hx.1.turn ht fun bb off e hm=>hx.2.2 bb off e (by simpa using hm)) (hy.1.turn ht fun bb off e hm=>hy.2.2 bb off e (by simpa using hm)) hx.2.1 hy.2.1;exact ht.cell ((hW.cell (p:=⟨g0,0,none⟩) hgw).trans y0) (by simp;omega))
 have HMM:=lh (show ∀ W,Keep w2 W→∀ x∈L,Sl W 3 Val.cells x.A x.c x.vs∧s<x.vs.length∧∀ bb off,x.A=some ⟨bb,off,none⟩→bb≠g from fun W hW x hx=>by
  have hm:x.vs∈rows.map (·.vs):=by rw [← hvs];exact List.mem_map_of_mem hx
  have hxl:=HLEN.out x.vs hm;have hxs:x.vs.length≤1000000000:=by
   obtain ⟨r,hr,e⟩:=List.mem_map.1 hm;rw [← e];exact HRL.out r hr
  refine ⟨((hnew x hx).sl (by omega)).keep hW,by have:=HSL.out;omega,fun bb off e=>?_⟩;obtain ⟨b,h1,h2,h3,h4⟩:=hnew x hx;rw [h1] at e;injection e with e;injection e with e1 e2;subst e1;intro hbg;subst hbg;exact own_row_ne hown h3 (by decide) rfl)
 have HOW:=lh hown;have HNW:=lh hnew;have HVS:=lh hvs;have HLL:=lh hlen;have HGB:=lh (show w.heap.size≤g from Nat.le_trans (HKB.out.trans HK1.out).size hgb);clear hk2 hown hnew hvs hlen HC HM hgb;go_wp2_with (go_at_call 61;refine hold ?_);refine unhold ?_;refine (ssf_any 62 _ (cmR s) _ _ g _ _ _ L _ (ordR s) (HOK.out _ (Keep.refl _)) (HMM.out _ (Keep.refl _)) (Turn.refl _ _) HLL.out HOW.out hl).mono ?_;rintro e w3 ⟨rfl,hown,hT⟩;have HOW3:=lh hown;have HT3:=lh hT;clear hown hT HOK HMM;go_wp2;exact bodyPost_ret (v:=.tuple #[.slice (some ⟨g,0,none⟩) rows.length rows.length,.int .i64 0]) (by simp [results,Tryz.results28,go_sem]) rfl ⟨g,rfl,Sym.ssort (ltC (cmR s)) L,HOW3.out.base_mono HZ.out,fun r hr=>by
  have hr2:=(Sym.ssort_mem (ordR s) L r).1 hr;obtain ⟨b,h1,h2,h3,h4⟩:=HNW.out r hr2;refine ⟨b,h1,by have:=HZ.out;omega,HT3.out.row h3 (fun hm=>?_),h4⟩;simp at hm;subst hm;exact own_row_ne HOW.out h3 (by decide) rfl,by
  have:=Sym.ssort_map (lt:=ltC (cmR s)) (lt':=ltL s) (fun r:Rw=>r.vs) (fun a b=>rfl) L;rw [this,HVS.out],Turn.after (HKB.out.trans HK2.out) HT3.out (fun i hi=>by simp at hi;subst hi;exact HGB.out)⟩
theorem tsort_any(A B:Option Addr)(n m:Nat)(cs:List Col)(c:Cfg)(rows:List Rw)(w:World)(h:Sl w 2 Col.cells A n cs)(hz:∀ x∈cs,x.name.size≤140737488355328)(hc:CfgAt w c)(hf:Fits cs c)
 (hr:Sl w 1 Rw.cells B m rows) (hra:RowsAt w rows) (hl:rows.length≤1000000000) (hrl:∀ r∈rows,r.vs.length≤1000000000) (he:tErr cs (rows.map (·.vs))=0) :
 Calls Tryz.prog 28 #[.slice A cs.length n,c.v,.slice B rows.length m] w fun e w'=>∃ g,e=.returned (.tuple #[.slice (some ⟨g,0,none⟩) rows.length rows.length,.int .i64 0])∧∃ L,OwnR w' w.heap.size (.slice (some ⟨g,0,none⟩) rows.length rows.length) L∧(∀ r∈L,NewRow w' w.heap.size r)∧L.map (·.vs)=sortF c.sort (rows.map (·.vs))∧Keep w w':=by
 rcases hf.sort with hs|hs
 ·have e:sortF c.sort (rows.map (·.vs))=rows.map (·.vs):=by unfold sortF;rw [hs];rfl
  rw [e];exact tsort_plain A B n m cs c rows w h hz hc hf hs hr hra hl hrl he
 ·obtain ⟨h1,h2⟩:=dim_rng hs;obtain ⟨s,e⟩:∃ s:Nat,c.sort=(s:Int):=⟨c.sort.toNat,by omega⟩;have e2:sortF c.sort (rows.map (·.vs))=Sym.ssort (ltL s) (rows.map (·.vs)):=by unfold sortF;rw [e,if_pos (by omega)];rfl
  rw [e2];exact tsort_by A B n m s cs c rows w h hz hc hf e (by omega) hr hra hl hrl he
end Go.Proofs.YtpkocnpamcchcaaGreatDoor
namespace Go.Proofs
open Go.Shelf
def Tryz.itoaL_ren:Go.Shelf.Ren:=⟨fun|171=>68|243=>110|246=>156|283=>188|284=>189|285=>190|286=>191|129=>163|317=>224|318=>225|319=>226|320=>227|337=>265|338=>266|n=>n,fun|3=>3|9=>9|2=>2|4=>4|171=>255|0=>0|53=>47|37=>31|5=>5|173=>257|212=>290|51=>81|20=>20|213=>291|46=>162|232=>340|233=>341|n=>n,fun|17=>0|18=>1|19=>2|n=>n⟩
theorem Tryz.itoaL:Go.Proofs.LaysM.n171 Tryz.prog Tryz.itoaL_ren:={
 mixed:=by kernel_rfl
 f129:=Tryz.func163.trans (congrArg some (by kernel_rfl))
 f171:=Tryz.func68.trans (congrArg some (by kernel_rfl))
 f243:=Tryz.func110.trans (congrArg some (by kernel_rfl))
 f246:=Tryz.func156.trans (congrArg some (by kernel_rfl))
 f283:=Tryz.func188.trans (congrArg some (by kernel_rfl))
 f284:=Tryz.func189.trans (congrArg some (by kernel_rfl))
 f285:=Tryz.func190.trans (congrArg some (by kernel_rfl))
 f286:=Tryz.func191.trans (congrArg some (by kernel_rfl))
 f317:=Tryz.func224.trans (congrArg some (by kernel_rfl))
 f318:=Tryz.func225.trans (congrArg some (by kernel_rfl))
 f319:=Tryz.func226.trans (congrArg some (by kernel_rfl))
 f320:=Tryz.func227.trans (congrArg some (by kernel_rfl))
 f337:=Tryz.func265.trans (congrArg some (by kernel_rfl))
 f338:=Tryz.func266.trans (congrArg some (by kernel_rfl))
 t0:=Tryz.underlying0
 a0:=Tryz.isAgg0
 z0:=Tryz.sizeOf0
 v0:=Tryz.zeroValue0
 t2:=Tryz.underlying2
 a2:=Tryz.isAgg2
 z2:=Tryz.sizeOf2
 v2:=Tryz.zeroValue2
 t3:=Tryz.underlying3
 a3:=Tryz.isAgg3
 z3:=Tryz.sizeOf3
 v3:=Tryz.zeroValue3
 t4:=Tryz.underlying4
 a4:=Tryz.isAgg4
 z4:=Tryz.sizeOf4
 v4:=Tryz.zeroValue4
 t5:=Tryz.underlying5
 a5:=Tryz.isAgg5
 z5:=Tryz.sizeOf5
 v5:=Tryz.zeroValue5
 t9:=Tryz.underlying9
 a9:=Tryz.isAgg9
 z9:=Tryz.sizeOf9
 v9:=Tryz.zeroValue9
 t20:=Tryz.underlying20
 a20:=Tryz.isAgg20
 z20:=Tryz.sizeOf20
 v20:=Tryz.zeroValue20
 t37:=Tryz.underlying31
 a37:=Tryz.isAgg31
 z37:=Tryz.sizeOf31
 v37:=Tryz.zeroValue31
 t46:=Tryz.underlying162
 a46:=Tryz.isAgg162
 z46:=Tryz.sizeOf162
 v46:=Tryz.zeroValue162
 t51:=Tryz.underlying81
 a51:=Tryz.isAgg81
 z51:=Tryz.sizeOf81
 v51:=Tryz.zeroValue81
 t53:=Tryz.underlying47
 a53:=Tryz.isAgg47
 z53:=Tryz.sizeOf47
 v53:=Tryz.zeroValue47
 t171:=Tryz.underlying255
 a171:=Tryz.isAgg255
 z171:=Tryz.sizeOf255
 v171:=Tryz.zeroValue255
 t173:=Tryz.underlying257
 a173:=Tryz.isAgg257
 z173:=Tryz.sizeOf257
 v173:=Tryz.zeroValue257
 t212:=Tryz.underlying290
 a212:=Tryz.isAgg290
 z212:=Tryz.sizeOf290
 v212:=Tryz.zeroValue290
 t213:=Tryz.underlying291
 a213:=Tryz.isAgg291
 z213:=Tryz.sizeOf291
 t232:=Tryz.underlying340
 a232:=Tryz.isAgg340
 z232:=Tryz.sizeOf340
 v232:=Tryz.zeroValue340
 t233:=Tryz.underlying341
 a233:=Tryz.isAgg341
 z233:=Tryz.sizeOf341
 v233:=Tryz.zeroValue341
 g17:=by kernel_rfl
 g18:=by kernel_rfl
 g19:=by kernel_rfl
 i0:=by kernel_rfl
 i2:=by kernel_rfl
 i3:=by kernel_rfl
 i4:=by kernel_rfl
 i5:=by kernel_rfl
 i9:=by kernel_rfl
 i20:=by kernel_rfl
 i37:=by kernel_rfl
 i46:=by kernel_rfl
 i51:=by kernel_rfl
 i53:=by kernel_rfl
 i171:=by kernel_rfl
 i173:=by kernel_rfl
 i212:=by kernel_rfl
 i232:=by kernel_rfl
 i233:=by kernel_rfl
 m17:=by kernel_rfl
 m18:=by kernel_rfl
 m19:=by kernel_rfl }
end Go.Proofs
namespace Go.Zone
theorem Turn.setc{w W:World}{S:List Nat}(h:Turn w W S){a:Addr}(ha:a.block∈S)(u:Value):Turn w (W.setCell a u) S :=
 h.trans ((Turn.set W a u).mono fun i hi=>.inl (by simp only [List.mem_singleton] at hi;subst hi;exact ha))
theorem Turn.drew{w W:World}{S:List Nat}(h:Turn w W S):Turn w W.drew S:=h.trans (Turn.keep (Keep.drew (Keep.refl W)) S)
theorem Turn.drewN{w W:World}{S:List Nat}(h:Turn w W S)(n:Nat):Turn w (W.drewN n) S:=h.trans (Turn.keep (Keep.drewN (Keep.refl W) n) S)
theorem Turn.alloc{w W:World}{S:List Nat}(h:Turn w W S)(o:Obj):Turn w (W.alloc o) S:=h.trans (Turn.keep (Keep.alloc (Keep.refl W) o) S)
theorem Turn.gro{w W:World}{S:List Nat}(h:Turn w W S)(p:_):Turn w (W.gro p) S:=h.trans (Turn.keep (Keep.gro (Keep.refl W) p) S)
theorem Turn.trans2{w1 w2 w3:World}{S S':List Nat}(h:Turn w1 w2 S)(k:Turn w2 w3 S')(hs:∀ i∈S',i∈S∨w1.heap.size≤i):Turn w1 w3 S :=
 ⟨k.os.trans h.os,k.tape.trans h.tape,k.output.trans h.output,Nat.le_trans h.size k.size,fun i hi hn=>(k.block i (Nat.lt_of_lt_of_le hi h.size) (fun hm=>by rcases hs i hm with e|e;exact hn e;omega)).trans (h.block i hi hn)⟩
theorem Turn.keep_{w W W':World}{S:List Nat}(h:Turn w W S)(hk:Keep W W'):Turn w W' S:=h.trans (Turn.keep hk S)
end Go.Zone
namespace Go.Proofs.YtpkocnpamcchcaaGreatDoor
open Go.RowKit Go.Zone Go.Shelf
attribute [local go_sem] zone stepZ fill lookFs goes goesUpon dropFs cell_gro frozen_gro size_gro lt_add drew_gro tape_gro keep_refl
attribute [local go_sem] lt_add2 lt_add3 lt_add4 lt_add5 lt_add6 lt_add7 lt_add8 lt_add9 lt_add10 lt_add11 lt_add12
theorem DictAt.turn{w w':World}{b:Nat}{kind:Int}{A:Option Addr}{c:Nat}{xs:List Val}{S:List Nat}(h:DictAt w b kind A c xs)(ht:Turn w w' S)(hb:b∉S)(hA:∀ b off,A=some ⟨b,off,none⟩→b∉S):DictAt w' b kind A c xs :=
 ⟨ht.cell h.k hb,ht.cell h.l hb,h.sl.turn ht hA⟩
theorem IdxAt.turn{w w':World}{b rows many wd c:Nat}{A:Option Addr}{bs:List UInt8}{S:List Nat}(h:IdxAt w b rows many wd A c bs)(ht:Turn w w' S)(hb:b∉S)(hA:∀ b off,A=some ⟨b,off,none⟩→b∉S):IdxAt w' b rows many wd A c bs :=
 ⟨ht.cell h.r hb,ht.cell h.m hb,ht.cell h.w_ hb,ht.cell h.b_ hb,h.sl.turn ht hA⟩
theorem put_secs{L s0 v r p f R o I Q M:Value}(b base:Nat)(S:List Sec)(nm:ByteArray)(A:Option Addr)(c:Nat)(bs:List UInt8)(w:World)(hR:Row w b 77 (mkC L s0 v r p f R o I Q M))(hO:OwnC w base o S)(hb:b<base)(hbase:base≤w.heap.size)(hl:S.length≤100000)
 (hS:SecsO w S) (hB:OwnB w 0 (.slice A bs.length c) bs) :
 Calls Tryz.prog 30 #[.pointer (some ⟨b,0,none⟩),.string nm,.slice A bs.length c] w fun e w'=>e=.returned (.tuple #[])∧∃ o',Row w' b 77 (mkC L s0 v r p f R o' I Q M)∧OwnC w' base o' (S++[⟨nm,A,c,bs⟩])∧SecsO w' (S++[⟨nm,A,c,bs⟩])∧Turn w w' (b :: o.ownBlock.toList)∧(o'.ownBlock=o.ownBlock∨∃ g,o'.ownBlock=some g∧w.heap.size≤g):=by
 refine (mkput_any b base S nm A c bs w hR hO hb hbase hl).mono ?_;rintro e w' ⟨rfl,o',h1,h2,h3,h4⟩;refine ⟨rfl,o',h1,h2,?_,h3,h4⟩;have hS2:SecsO w (S++[⟨nm,A,c,bs⟩]):=fun s hs=>by
  rw [List.mem_append,List.mem_singleton] at hs
  rcases hs with hs|rfl
  ·exact hS s hs
  ·exact hB
 refine hS2.turn h3 fun i hi _=>?_;rw [List.mem_cons] at hi
 rcases hi with rfl|hi
 ·exact Row.noU8 hR (by decide)
 ·exact OwnC.noU8 hO i hi
end Go.Proofs.YtpkocnpamcchcaaGreatDoor
namespace Go.Proofs.YtpkocnpamcchcaaGreatDoor
open Go.RowKit Go.Zone Go.Shelf
attribute [local go_sem] zone stepZ fill lookFs goes goesUpon dropFs cell_gro frozen_gro size_gro lt_add drew_gro tape_gro keep_refl
attribute [local go_sem] lt_add2 lt_add3 lt_add4 lt_add5 lt_add6 lt_add7 lt_add8 lt_add9 lt_add10 lt_add11 lt_add12
theorem info_i64:(Tryz.prog.info? 3).map (fun i=>(i.zero,i.size,i.bytes))=some (some (.int .i64 0),1,8):=by kernel_rfl
def sDict:ByteArray:=⟨#[100,105,99,116]⟩
def sFwd:ByteArray:=⟨#[102,111,114,119,97,114,100]⟩
theorem find_own{kind:Int}{xs:List Val}{v:Val}(hk:kind≠0)(hv:v∈xs):findV kind (dOwn xs) v=((lower (dOwn xs) v:Int),true):=by
 simp [findV,hk,(own_place hv).1]
theorem DictAt.turn1{w w':World}{b:Nat}{kind:Int}{A:Option Addr}{c:Nat}{xs:List Val}{S:List Nat}(h:DictAt w b kind A c xs)(ht:Turn w w' S)(hb:b∉S)(hA:∀ b off,A=some ⟨b,off,none⟩→0<xs.length→b∉S):DictAt w' b kind A c xs:=by
 rcases xs with _ | ⟨x,r⟩
 ·exact ⟨ht.cell h.k hb,ht.cell h.l hb,Sl.nil_ _ h.sl.big⟩
 ·exact ⟨ht.cell h.k hb,ht.cell h.l hb,h.sl.turn ht fun b off e=>hA b off e (by simp)⟩
end Go.Proofs.YtpkocnpamcchcaaGreatDoor
