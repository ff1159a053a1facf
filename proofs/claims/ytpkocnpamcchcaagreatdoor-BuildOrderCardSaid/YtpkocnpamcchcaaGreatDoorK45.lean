/- Parts of the proof. -/
import Derived.Test.YtpkocnpamcchcaaGreatDoorK44
set_option maxRecDepth 100000
set_option maxHeartbeats 4000000
set_option linter.unusedSimpArgs false
set_option linter.unusedVariables false
set_option linter.unnecessarySimpa false
namespace Go.Proofs.YtpkocnpamcchcaaGreatDoor
open Go.RowKit Go.Zone Go.Shelf
attribute [local go_sem] zone stepZ fill lookFs goes goesUpon dropFs cell_gro frozen_gro size_gro lt_add drew_gro tape_gro keep_refl
attribute [local go_sem] lt_add2 lt_add3 lt_add4 lt_add5 lt_add6 lt_add7 lt_add8 lt_add9 lt_add10 lt_add11 lt_add12
theorem elt_sp:Elt Tryz.prog 49 24 1 24:=by
 obtain ⟨i,hi,h1,h2,h3⟩:=info_parts (show (Tryz.prog.info? 24).map (fun i=>(i.zero,i.size,i.bytes))=some (some (.slice none 0 0),1,24) by kernel_rfl);exact ⟨i,_,Tryz.underlying49,hi,h1,h2,h3,rfl,by decide,by decide⟩
abbrev OwnSp(w:World)(base:Nat)(v:Value)(L:List Ir):Prop:=Own w base 24 1 Ir.cells v L
abbrev OwnMy(w:World)(base:Nat)(v:Value)(L:List Int):Prop:=Own w base 3 1 i64V v L
def qv(b gi gq pl ni nq:Nat)(As Am:Option Addr)(ns nm cs cm:Nat)(ri:Ir)(mi:Int):Nat→Option Value
 | 0=>some (.slice As ns cs)
 | 1=>some (.pointer (some ⟨b,0,none⟩))
 | 2=>some (.pointer (some ⟨b,0,none⟩))
 | 3=>some (.pointer (some ⟨b,8,none⟩))
 | 4=>some (.slice (some ⟨gi,0,none⟩) ni ni)
 | 5=>some (.int .i64 pl)
 | 6=>some (.pointer (some ⟨gi,pl,none⟩))
 | 7=>some (.slice ri.A ri.xs.length ri.c)
 | 10=>some (.slice Am nm cm)
 | 11=>some (.pointer (some ⟨b,0,none⟩))
 | 12=>some (.pointer (some ⟨b,0,none⟩))
 | 13=>some (.pointer (some ⟨b,9,none⟩))
 | 14=>some (.slice (some ⟨gq,0,none⟩) nq nq)
 | 15=>some (.int .i64 pl)
 | 16=>some (.pointer (some ⟨gq,pl,none⟩))
 | 17=>some (.int .i64 mi)
 | _=>none
theorem op_ap{P:Program}(ρ:Operand→Value)(o:Oper)(W W':World)(s x:Operand)(t:TypeId)(v':Value)(ho:o.op=.call { callee:=.builtin .append,args:=#[s,x],argTypes:=#[t,t] })(hr:(Builtin.append_ #[t,t] o.type #[ρ s,ρ x]).run P W=.ok v' W'):(execOp ρ o).run P W=.ok (.value v') W':=by
 unfold execOp;simp only [ho,resolve,invoke,builtin,Sem.run_bind,Sem.run_pure,Result.andThen_ok,List.map_toArray,List.map_cons,List.map_nil,hr]
theorem op_bs1(ρ:Operand→Value)(o:Oper)(W:World)(x:Operand)(r:Ir)(ho:o.op=.buildSlice 49 1 #[(0,x)])(hx:ρ x=.slice r.A r.xs.length r.c):(execOp ρ o).run Tryz.prog W=.ok (.value (.slice (some ⟨W.heap.size,0,none⟩) 1 1)) (W.alloc (.cells r.cells.toArray 24)):=by
 unfold execOp;simp only [ho,List.map_toArray,List.map_cons,List.map_nil,hx];go_simp;rfl
theorem op_bs2(ρ:Operand→Value)(o:Oper)(W:World)(x:Operand)(n:Int)(ho:o.op=.buildSlice 24 1 #[(0,x)])(hx:ρ x=.int .i64 n):(execOp ρ o).run Tryz.prog W=.ok (.value (.slice (some ⟨W.heap.size,0,none⟩) 1 1)) (W.alloc (.cells (i64V n).toArray 3)):=by
 unfold execOp;simp only [ho,List.map_toArray,List.map_cons,List.map_nil,hx];go_simp;rfl
structure AddI(w:World)(b bx bs bm gi gq base pl ni nq:Nat)(SP:List Ir)(MY:List Int)(As Am:Option Addr)(cs cm:Nat)(ri:Ir)(mi:Int)(L:Nat→Bool)(c:Act)(W:World):Prop where
 df:c.defers=[]
 sz:c.tmps.size=25
 lo0:c.tmps.getD 0 undef=.int .i64 pl
 lo1:c.tmps.getD 1 undef=.pointer (some ⟨bs,0,none⟩)
 lo2:c.tmps.getD 2 undef=.pointer (some ⟨bx,0,none⟩)
 lo3:c.tmps.getD 3 undef=.pointer (some ⟨bm,0,none⟩)
 q:∀ i:Nat,L i=true→∀ v,qv b gi gq pl ni nq As Am SP.length MY.length cs cm ri mi i=some v→c.tmps.getD (i+5) undef=v
 tn:Turn w W (bs :: bm :: ((Value.slice As SP.length cs).ownBlock.toList++(Value.slice Am MY.length cm).ownBlock.toList))
 x20:L 20=true→L 19=true
 x21:L 21=true→L 20=true
 x19:L 19=true→L 9=true∧L 18=true
 x9:L 9=true→L 8=true
 y9:L 9=true→L 0=true
 y19:L 19=true→L 10=true
 ha:Half w 49 24 Ir.cells base bs (.slice As SP.length cs) SP ri (L 8) (L 9) (L 20) (c.tmps.getD 13 undef) (c.tmps.getD 14 undef) W
 hb:Half w 24 3 i64V base bm (.slice Am MY.length cm) MY mi (L 18) (L 19) (L 21) (c.tmps.getD 23 undef) (c.tmps.getD 24 undef) W
section
variable {w W:World} {b bx bs bm gi gq base pl ni nq:Nat} {SP:List Ir} {MY:List Int} {As Am:Option Addr} {cs cm:Nat} {ri:Ir} {mi:Int} {Lk:Nat→Bool} {c:Act}
theorem put5(c:Act)(i:Nat)(v:Value)(t:Nat)(h:t≠i+5):(c.put (some (i+5)) v).tmps.getD t undef=c.tmps.getD t undef:=put_else c (i+5) v t (Ne.symm h)
theorem AddI.quiet(h:AddI w b bx bs bm gi gq base pl ni nq SP MY As Am cs cm ri mi Lk c W){i:Nat}{v:Value}(hv:qv b gi gq pl ni nq As Am SP.length MY.length cs cm ri mi i=some v)(hi:i<18)(h8:i≠8)(h9:i≠9):AddI w b bx bs bm gi gq base pl ni nq SP MY As Am cs cm ri mi (fun k=>if i=k then true else Lk k) (c.put (some (i+5)) v) W:=by
 have e:∀ k:Nat,i≠k→(if i=k then true else Lk k)=Lk k:=fun k hk=>if_neg hk;refine ⟨(put_defers' _ _ _).trans h.df,(put_size _ _ _).trans h.sz,(put5 _ _ _ _ (by omega)).trans h.lo0,(put5 _ _ _ _ (by omega)).trans h.lo1,(put5 _ _ _ _ (by omega)).trans h.lo2,(put5 _ _ _ _ (by omega)).trans h.lo3,fun k hk u hu=>?_,h.tn,?_,?_,?_,?_,?_,?_,?_,?_⟩
 ·by_cases hik:i=k
  ·subst hik;rw [put_at _ _ _ (by rw [h.sz];omega)];exact Option.some.inj (hv.symm.trans hu)
  ·rw [put5 _ _ _ _ (by omega)];exact h.q k (by rw [e k hik] at hk;exact hk) u hu
 all_goals simp only [e 8 h8,e 9 h9,e 18 (by omega),e 19 (by omega),e 20 (by omega),e 21 (by omega)]
 ·exact h.x20
 ·exact h.x21
 ·exact h.x19
 ·exact h.x9
 ·exact fun hk=>by split;rfl;exact h.y9 hk
 ·exact fun hk=>by split;rfl;exact h.y19 hk
 ·rw [put5 _ _ _ 13 (by omega),put5 _ _ _ 14 (by omega)];exact h.ha
 ·rw [put5 _ _ _ 23 (by omega),put5 _ _ _ 24 (by omega)];exact h.hb
theorem AddI.made8(h:AddI w b bx bs bm gi gq base pl ni nq SP MY As Am cs cm ri mi Lk c W):AddI w b bx bs bm gi gq base pl ni nq SP MY As Am cs cm ri mi (fun k=>if 8=k then true else Lk k) (c.put (some 13) (.slice (some ⟨W.heap.size,0,none⟩) 1 1)) (W.alloc (.cells ri.cells.toArray 24)):=by
 refine ⟨(put_defers' _ _ _).trans h.df,(put_size _ _ _).trans h.sz,(put_else _ _ _ _ (by decide)).trans h.lo0,(put_else _ _ _ _ (by decide)).trans h.lo1,(put_else _ _ _ _ (by decide)).trans h.lo2,(put_else _ _ _ _ (by decide)).trans h.lo3,fun k hk u hu=>?_,h.tn.trans (Turn.keep ((Keep.refl W).alloc _) _),h.x20,h.x21,h.x19,fun _=>rfl,h.y9,h.y19,?_,?_⟩
 ·by_cases hik:8=k
  ·subst hik;cases hu
  ·rw [if_neg hik] at hk;rw [put_else _ _ _ _ (by omega)];exact h.q k hk u hu
 ·rw [put_at _ _ _ (by rw [h.sz];decide),put_else _ _ _ _ (by decide)];exact h.ha.made h.tn.size
 ·rw [put_else _ _ _ _ (by decide),put_else _ _ _ _ (by decide)];exact h.hb.keep ((Keep.refl W).alloc _)
theorem AddI.made18(h:AddI w b bx bs bm gi gq base pl ni nq SP MY As Am cs cm ri mi Lk c W):AddI w b bx bs bm gi gq base pl ni nq SP MY As Am cs cm ri mi (fun k=>if 18=k then true else Lk k) (c.put (some 23) (.slice (some ⟨W.heap.size,0,none⟩) 1 1)) (W.alloc (.cells (i64V mi).toArray 3)):=by
 refine ⟨(put_defers' _ _ _).trans h.df,(put_size _ _ _).trans h.sz,(put_else _ _ _ _ (by decide)).trans h.lo0,(put_else _ _ _ _ (by decide)).trans h.lo1,(put_else _ _ _ _ (by decide)).trans h.lo2,(put_else _ _ _ _ (by decide)).trans h.lo3,fun k hk u hu=>?_,h.tn.trans (Turn.keep ((Keep.refl W).alloc _) _),h.x20,h.x21,fun hk=>⟨(h.x19 hk).1,rfl⟩,h.x9,h.y9,h.y19,?_,?_⟩
 ·by_cases hik:18=k
  ·subst hik;cases hu
  ·rw [if_neg hik] at hk;rw [put_else _ _ _ _ (by omega)];exact h.q k hk u hu
 ·rw [put_else _ _ _ _ (by decide),put_else _ _ _ _ (by decide)];exact h.ha.keep ((Keep.refl W).alloc _)
 ·rw [put_at _ _ _ (by rw [h.sz];decide),put_else _ _ _ _ (by decide)];exact h.hb.made h.tn.size
theorem AddI.app9(h:AddI w b bx bs bm gi gq base pl ni nq SP MY As Am cs cm ri mi Lk c W)(l0:Lk 0=true)(l8:Lk 8=true)(l9:Lk 9=false)(hb:bs<base∧bm<base)(hbase:base≤w.heap.size)(hl:SP.length≤100)(hob:∀ j,(Value.slice As SP.length cs).ownBlock=some j→j<w.heap.size)(ty:TypeId) :
 ∃ v' W',(Builtin.append_ #[49,49] ty #[c.tmps.getD 5 undef,c.tmps.getD 13 undef]).run Tryz.prog W=.ok v' W'∧AddI w b bx bs bm gi gq base pl ni nq SP MY As Am cs cm ri mi (fun k=>if 9=k then true else Lk k) (c.put (some 14) v') W':=by
 have l19:Lk 19=false:=by
  cases hx:Lk 19 with
  | false=>rfl
  | true=>rw [(h.x19 hx).1] at l9;cases l9
 have l20:Lk 20=false:=by
  cases hx:Lk 20 with
  | false=>rfl
  | true=>rw [h.x20 hx] at l19;cases l19
 have l21:Lk 21=false:=by
  cases hx:Lk 21 with
  | false=>rfl
  | true=>rw [h.x21 hx] at l20;cases l20
 have ha:=h.ha;rw [l8,l9,l20] at ha;have hs:=h.tn.size;rw [h.q 0 l0 _ rfl];obtain ⟨v',W',hr,hg,hh⟩:=ha.app elt_sp ir_len ir_one ty (by omega) (by omega) (by omega) hb.1 hob;refine ⟨v',W',hr,(put_defers' _ _ _).trans h.df,(put_size _ _ _).trans h.sz,(put_else _ _ _ _ (by decide)).trans h.lo0,(put_else _ _ _ _ (by decide)).trans h.lo1,(put_else _ _ _ _ (by decide)).trans h.lo2,(put_else _ _ _ _ (by decide)).trans h.lo3,fun k hk u hu=>?_,h.tn.trans ((Turn.of_grown hg).mono fun i hi=>.inl (by simp only [List.mem_cons,List.mem_append];exact .inr (.inr (.inl hi)))),h.x20,h.x21,fun hk=>⟨rfl,(h.x19 hk).2⟩,fun _=>l8,fun _=>l0,h.y19,?_,?_⟩
 ·by_cases hik:9=k
  ·subst hik;cases hu
  ·rw [if_neg hik] at hk;rw [put_else _ _ _ _ (by omega)];exact h.q k hk u hu
 ·rw [put_at _ _ _ (by rw [h.sz];decide),put_else _ _ _ _ (by decide)]
  simpa [l8,l20] using hh
 ·rw [put_else _ _ _ _ (by decide),put_else _ _ _ _ (by decide)];refine h.hb.turn (Turn.of_grown hg) (fun hm=>?_) (fun i hi=>hob i (by simpa using hi)) fun v ys hv i hi=>own_own_ne (ha.a9F rfl) hv (by decide) i (by simpa using hi);have:=((ha.a9F rfl).lt bm (by simpa using hm)).1;omega
theorem AddI.app19(h:AddI w b bx bs bm gi gq base pl ni nq SP MY As Am cs cm ri mi Lk c W)(l0:Lk 10=true)(l18:Lk 18=true)(l9:Lk 9=true)(l19:Lk 19=false)(hb:bs<base∧bm<base)(hbase:base≤w.heap.size)(hl:MY.length≤100)(hob:∀ j,(Value.slice Am MY.length cm).ownBlock=some j→j<w.heap.size)(ty:TypeId) :
 ∃ v' W',(Builtin.append_ #[24,24] ty #[c.tmps.getD 15 undef,c.tmps.getD 23 undef]).run Tryz.prog W=.ok v' W'∧AddI w b bx bs bm gi gq base pl ni nq SP MY As Am cs cm ri mi (fun k=>if 19=k then true else Lk k) (c.put (some 24) v') W':=by
 have l20:Lk 20=false:=by
  cases hx:Lk 20 with
  | false=>rfl
  | true=>rw [h.x20 hx] at l19;cases l19
 have l21:Lk 21=false:=by
  cases hx:Lk 21 with
  | false=>rfl
  | true=>rw [h.x21 hx] at l20;cases l20
 have ha:=h.hb;rw [l18,l19,l21] at ha;have hs:=h.tn.size;rw [h.q 10 l0 _ rfl];obtain ⟨v',W',hr,hg,hh⟩:=ha.app elt_int i64_len i64_one ty (by omega) (by omega) (by omega) hb.2 hob;refine ⟨v',W',hr,(put_defers' _ _ _).trans h.df,(put_size _ _ _).trans h.sz,(put_else _ _ _ _ (by decide)).trans h.lo0,(put_else _ _ _ _ (by decide)).trans h.lo1,(put_else _ _ _ _ (by decide)).trans h.lo2,(put_else _ _ _ _ (by decide)).trans h.lo3,fun k hk u hu=>?_,h.tn.trans ((Turn.of_grown hg).mono fun i hi=>.inl (by simp only [List.mem_cons,List.mem_append];exact .inr (.inr (.inr hi)))),fun _=>rfl,h.x21,fun _=>⟨l9,l18⟩,h.x9,h.y9,fun _=>l0,?_,?_⟩
 ·by_cases hik:19=k
  ·subst hik;cases hu
  ·rw [if_neg hik] at hk;rw [put_else _ _ _ _ (by omega)];exact h.q k hk u hu
 ·rw [put_else _ _ _ _ (by decide),put_else _ _ _ _ (by decide)];refine h.ha.turn (Turn.of_grown hg) (fun hm=>?_) (fun i hi=>hob i (by simpa using hi)) fun v ys hv i hi=>own_own_ne (ha.a9F rfl) hv (by decide) i (by simpa using hi);have:=((ha.a9F rfl).lt bs (by simpa using hm)).1;omega
 ·rw [put_at _ _ _ (by rw [h.sz];decide),put_else _ _ _ _ (by decide)]
  simpa [l18,l21] using hh
theorem AddI.store20(h:AddI w b bx bs bm gi gq base pl ni nq SP MY As Am cs cm ri mi Lk c W)(l19:Lk 19=true)(l20:Lk 20=false)(hb:bs<base∧bm<base)(hbase:base≤w.heap.size)(hsb:bs≠bm):AddI w b bx bs bm gi gq base pl ni nq SP MY As Am cs cm ri mi (fun k=>if 20=k then true else Lk k) c (W.setCell ⟨bs,0,none⟩ (c.tmps.getD 14 undef)):=by
 have l9:=(h.x19 l19).1;have ha:=h.ha;rw [l9,l20] at ha;refine ⟨h.df,h.sz,h.lo0,h.lo1,h.lo2,h.lo3,fun k hk u hu=>?_,h.tn.trans ((Turn.set W _ _).mono fun i hi=>.inl (by simp only [List.mem_singleton] at hi;simp [hi])),fun _=>l19,fun _=>rfl,h.x19,h.x9,h.y9,h.y19,?_,?_⟩
 ·by_cases hik:20=k
  ·subst hik;cases hu
  ·rw [if_neg hik] at hk;exact h.q k hk u hu
 ·have:=ha.store hb.1 (by omega)
  simpa [l9] using this
 ·refine h.hb.turn (Turn.set W _ _) (by simpa using Ne.symm hsb) (fun i hi=>by simp only [List.mem_singleton] at hi;omega) fun v ys hv i hi he=>?_;have:=(hv.lt i he).1;simp only [List.mem_singleton] at hi;omega
theorem AddI.store21(h:AddI w b bx bs bm gi gq base pl ni nq SP MY As Am cs cm ri mi Lk c W)(l20:Lk 20=true)(l21:Lk 21=false)(hb:bs<base∧bm<base)(hbase:base≤w.heap.size)(hsb:bs≠bm):AddI w b bx bs bm gi gq base pl ni nq SP MY As Am cs cm ri mi (fun k=>if 21=k then true else Lk k) c (W.setCell ⟨bm,0,none⟩ (c.tmps.getD 24 undef)):=by
 have l19:=h.x20 l20;have ha:=h.hb;rw [l19,l21] at ha;refine ⟨h.df,h.sz,h.lo0,h.lo1,h.lo2,h.lo3,fun k hk u hu=>?_,h.tn.trans ((Turn.set W _ _).mono fun i hi=>.inl (by simp only [List.mem_singleton] at hi;simp [hi])),h.x20,fun _=>l20,h.x19,h.x9,h.y9,h.y19,?_,?_⟩
 ·by_cases hik:21=k
  ·subst hik;cases hu
  ·rw [if_neg hik] at hk;exact h.q k hk u hu
 ·refine h.ha.turn (Turn.set W _ _) (by simpa using hsb) (fun i hi=>by simp only [List.mem_singleton] at hi;omega) fun v ys hv i hi he=>?_;have:=(hv.lt i he).1;simp only [List.mem_singleton] at hi;omega
 ·have:=ha.store hb.2 (by omega)
  simpa [l19] using this
end
theorem add_any{L s0 v r p f R o M:Value}(b bx bs bm gi gq base pl ni nq:Nat)(SP:List Ir)(MY:List Int)(As Am:Option Addr)(cs cm:Nat)(ri:Ir)(mi:Int)(vi vq:List Value)(w:World)
 (hR:Row w b 77 (mkC L s0 v r p f R o (.slice (some ⟨gi,0,none⟩) ni ni) (.slice (some ⟨gq,0,none⟩) nq nq) M)) (hbx:w.cell? ⟨bx,0,none⟩=some (.pointer (some ⟨b,0,none⟩)))
 (hS:Row w bs 49 [.slice As SP.length cs]) (hM:Row w bm 24 [.slice Am MY.length cm]) (hgi:Row w gi 24 vi) (hgq:Row w gq 3 vq) (hni:pl<ni) (hnq:pl<nq) (hvi:vi[pl]? =some (.slice ri.A ri.xs.length ri.c)) (hvq:vq[pl]? =some (.int .i64 mi))
 (hoS:OwnSp w base (.slice As SP.length cs) SP) (hoM:OwnMy w base (.slice Am MY.length cm) MY) (hb:bs<base∧bm<base∧bx<base∧b<base∧gi<base∧gq<base) (hbase:base≤w.heap.size) (hl:SP.length≤100) (hml:MY.length≤100) (hsb:bs≠bm) (hgm:gi≠bm) :
 Calls Tryz.prog 35 #[.int .i64 pl,.pointer (some ⟨bs,0,none⟩),.pointer (some ⟨bx,0,none⟩),.pointer (some ⟨bm,0,none⟩)] w fun e w'=>e=.returned (.tuple #[])∧∃ A' c' A2 c2,Row w' bs 49 [.slice A' (SP.length+1) c']∧Row w' bm 24 [.slice A2 (MY.length+1) c2]∧OwnSp w' base (.slice A' (SP.length+1) c') (SP++[ri])∧OwnMy w' base (.slice A2 (MY.length+1) c2) (MY++[mi])∧Turn w w' (bs :: bm :: ((Value.slice As SP.length cs).ownBlock.toList++(Value.slice Am MY.length cm).ownBlock.toList)):=by
 have y8:=hR.cell 8 _ rfl;have y9:=hR.cell 9 _ rfl;have z0:=hS.cell 0 _ rfl;have z1:=hM.cell 0 _ rfl;have u0:=hgi.cell pl _ hvi;have u1:=hgq.cell pl _ hvq;have q0:=hS.soft 0;have q1:=hM.soft 0;have l0:=hR.lt;have l1:=hS.lt;have l2:=hM.lt;have l3:=hgi.lt;have l4:=hgq.lt;have l5:=block_lt_of_cell hbx;simp only at l5;go_enter Tryz.func35,Tryz.ntmps35;go_upto_region 0 with fail;refine Zone.wp_region_inv (by kernel_rfl) (by kernel_rfl) (fun listed c W=>AddI w b bx bs bm gi gq base pl ni nq SP MY As Am cs cm ri mi (fun k=>listed.getD k false) c W) ?h0 ?hstep ?hend
 case h0 =>
  have hr:∀ k,(Array.replicate (22:Nat) false).getD k false=false:=fun k=>Zone.getD_replicate_false' _ k;refine ⟨rfl,rfl,rfl,rfl,rfl,rfl,fun k hk=>?_,⟨rfl,rfl,rfl,Nat.le_refl _,fun _ _ _=>rfl⟩,fun hk=>?_,fun hk=>?_,fun hk=>?_,fun hk=>?_,fun hk=>?_,fun hk=>?_,⟨fun _=>hS,fun hk=>?_,fun _=>hoS,fun hk=>?_⟩,⟨fun _=>hM,fun hk=>?_,fun _=>hoM,fun hk=>?_⟩⟩
  all_goals (exfalso;exact Bool.noConfusion ((hr _).symm.trans hk))
 case hend =>
  intro listed c W h hs hall;have hf:∀ k,k<22→(fun k=>listed.getD k false) k=true:=fun k hk=>hall k hk;obtain ⟨A',c',e1,e2,e3⟩:=h.ha.a9T (hf 9 (by decide));obtain ⟨A2,c2,f1,f2,f3⟩:=h.hb.a9T (hf 19 (by decide));have e4:=e3 (hf 20 (by decide));have f4:=f3 (hf 21 (by decide));rw [e1] at e2 e4;rw [f1] at f2 f4;have hd:=h.df;obtain ⟨ct,cd⟩:=c;simp only at hd;subst hd;exact bodyPost_end (v:=.tuple #[]) (by simp [results,Tryz.results35,go_sem]) rfl ⟨rfl,A',c',A2,c2,e4,f4,e2,f2,h.tn⟩
 case hstep =>
  intro listed c W h hs i o ho hun hed;have hL:(fun k=>(listed.setIfInBounds i true).getD k false)=fun k=>if i=k then true else listed.getD k false:=funext fun k=>Zone.getD_listed (by rw [hs];exact (Array.getElem?_eq_some_iff.1 ho).1)
  simp only [hL];have hi:i<22:=(Array.getElem?_eq_some_iff.1 ho).1;generalize hLL:(fun k=>listed.getD k false)=Lk at h;have hun':Lk i=false:=by rw [← hLL];exact hun
  have hLk:∀ k,listed.getD k false=Lk k:=fun k=>by rw [← hLL]
  simp only [hLk] at hed ⊢;clear hLL hL hun hLk hs;have HH:=lh h;have hq:=h.q;have hlo0:=h.lo0;have hlo1:=h.lo1;have hlo2:=h.lo2;have hlo3:=h.lo3;have hob:∀ j,(Value.slice As SP.length cs).ownBlock=some j→j<w.heap.size:=fun j hj=>(hoS.lt j hj).2;have hob2:∀ j,(Value.slice Am MY.length cm).ownBlock=some j→j<w.heap.size:=fun j hj=>(hoM.lt j hj).2;have hlow:∀ {g:Nat} {T:TypeId} {vs:List Value},Row w g T vs→g<base→g≠bs→g≠bm→Row W g T vs:=fun {g T vs} hr hg h1 h2=>h.tn.row hr fun hm=>by
   simp only [List.mem_cons,List.mem_append] at hm
   rcases hm with e|e|e|e
   ·exact h1 e
   ·exact h2 e
   ·have:=(hoS.lt g (by simpa using e)).1;omega
   ·have:=(hoM.lt g (by simpa using e)).1;omega
  have hcell:∀ {g:Nat} (j:Nat),g<base→g≠bs→g≠bm→W.cell? ⟨g,j,none⟩=w.cell? ⟨g,j,none⟩:=fun {g} j hg h1 h2=>by
   have hbk:=h.tn.block g (by omega) fun hm=>by
    simp only [List.mem_cons,List.mem_append] at hm
    rcases hm with e|e|e|e
    ·exact h1 e
    ·exact h2 e
    ·have:=(hoS.lt g (by simpa using e)).1;omega
    ·have:=(hoM.lt g (by simpa using e)).1;omega
   unfold World.cell?;simp only [hbk]
  have nbs:b≠bs:=row_ne hR hS (by decide);have nbm:b≠bm:=row_ne hR hM (by decide);have ngs:gi≠bs:=row_ne hgi hS (by decide);have nqs:gq≠bs:=row_ne hgq hS (by decide);have nqm:gq≠bm:=row_ne hgq hM (by decide);have nxs:bx≠bs:=fun e=>by subst e;rw [z0] at hbx;cases hbx
  have nxm:bx≠bm:=fun e=>by subst e;rw [z1] at hbx;cases hbx
  have cx:W.cell? ⟨bx,0,none⟩=_:=(hcell 0 hb.2.2.1 nxs nxm).trans hbx;have c8:W.cell? ⟨b,8,none⟩=_:=(hcell 8 hb.2.2.2.1 nbs nbm).trans y8;have c9:W.cell? ⟨b,9,none⟩=_:=(hcell 9 hb.2.2.2.1 nbs nbm).trans y9;have ci:W.cell? ⟨gi,pl,none⟩=_:=(hcell pl hb.2.2.2.2.1 ngs hgm).trans u0;have cq:W.cell? ⟨gq,pl,none⟩=_:=(hcell pl hb.2.2.2.2.2 nqs nqm).trans u1;have cs0:Lk 20=false→W.cell? ⟨bs,0,none⟩=some (.slice As SP.length cs):=fun hk=>(h.ha.row hk).cell 0 _ rfl;have cm0:Lk 21=false→W.cell? ⟨bm,0,none⟩=some (.slice Am MY.length cm):=fun hk=>(h.hb.row hk).cell 0 _ rfl;have hwb:=h.tn.size;clear hR hbx hS hM hgi hgq hvi hvq hlow hcell y8 y9 z0 z1 u0 u1 q0 q1
  match i,hi with
  | 0,_ =>
    obtain rfl:=Option.some.inj (show some _=some o from ho);have k20:Lk 20=false:=by
     cases hx:Lk 20 with
     | false=>rfl
     | true=>exact absurd (HH.out.y9 (HH.out.x19 (HH.out.x20 hx)).1) (by rw [hun'];decide)
    have c0:=cs0 k20;refine ⟨by rfl,.inl ⟨_,W,?_,HH.out.quiet (i:=0) rfl (by decide) (by decide) (by decide)⟩⟩;unfold execOp;simp only [Act.eval,hlo1];go_simp
  | 1,_ =>
    obtain rfl:=Option.some.inj (show some _=some o from ho);refine ⟨by rfl,.inl ⟨_,W,?_,HH.out.quiet (i:=1) rfl (by decide) (by decide) (by decide)⟩⟩;unfold execOp;simp only [Act.eval,hlo2];go_simp
  | 2,_ =>
    obtain rfl:=Option.some.inj (show some _=some o from ho);have s1:=hq 1 (hed ⟨1,.data⟩ (by simp) rfl) _ rfl;refine ⟨by rfl,.inl ⟨_,W,?_,HH.out.quiet (i:=2) rfl (by decide) (by decide) (by decide)⟩⟩;unfold execOp;simp only [Act.eval,s1];go_simp
  | 3,_ =>
    obtain rfl:=Option.some.inj (show some _=some o from ho);have s2:=hq 2 (hed ⟨2,.data⟩ (by simp) rfl) _ rfl;refine ⟨by rfl,.inl ⟨_,W,?_,HH.out.quiet (i:=3) rfl (by decide) (by decide) (by decide)⟩⟩;unfold execOp;simp only [Act.eval,s2];go_simp
  | 4,_ =>
    obtain rfl:=Option.some.inj (show some _=some o from ho);have s3:=hq 3 (hed ⟨3,.data⟩ (by simp) rfl) _ rfl;refine ⟨by rfl,.inl ⟨_,W,?_,HH.out.quiet (i:=4) rfl (by decide) (by decide) (by decide)⟩⟩;unfold execOp;simp only [Act.eval,s3];go_simp
  | 5,_ =>
    obtain rfl:=Option.some.inj (show some _=some o from ho);refine ⟨by rfl,.inl ⟨_,W,?_,HH.out.quiet (i:=5) rfl (by decide) (by decide) (by decide)⟩⟩;unfold execOp;simp only [Act.eval,hlo0];go_simp
  | 6,_ =>
    obtain rfl:=Option.some.inj (show some _=some o from ho);have s4:=hq 4 (hed ⟨4,.data⟩ (by simp) rfl) _ rfl;have s5:=hq 5 (hed ⟨5,.data⟩ (by simp) rfl) _ rfl;refine ⟨by rfl,.inl ⟨_,W,?_,HH.out.quiet (i:=6) rfl (by decide) (by decide) (by decide)⟩⟩;unfold execOp;simp only [Act.eval,s4,s5];go_simp
  | 7,_ =>
    obtain rfl:=Option.some.inj (show some _=some o from ho);have s6:=hq 6 (hed ⟨6,.data⟩ (by simp) rfl) _ rfl;refine ⟨by rfl,.inl ⟨_,W,?_,HH.out.quiet (i:=7) rfl (by decide) (by decide) (by decide)⟩⟩;unfold execOp;simp only [Act.eval,s6];go_simp
  | 8,_ =>
    obtain rfl:=Option.some.inj (show some _=some o from ho);have s7:=hq 7 (hed ⟨7,.data⟩ (by simp) rfl) _ rfl;exact ⟨by rfl,.inl ⟨_,_,op_bs1 _ _ W (.tmp 12) ri rfl s7,HH.out.made8⟩⟩
  | 9,_ =>
    obtain rfl:=Option.some.inj (show some _=some o from ho);obtain ⟨v',W',hr,hh⟩:=HH.out.app9 (hed ⟨0,.data⟩ (by simp) rfl) (hed ⟨8,.data⟩ (by simp) rfl) hun' ⟨hb.1,hb.2.1⟩ hbase hl hob 49;exact ⟨by rfl,.inl ⟨v',W',op_ap _ _ W W' (.tmp 5) (.tmp 13) _ v' rfl hr,hh⟩⟩
  | 10,_ =>
    obtain rfl:=Option.some.inj (show some _=some o from ho);have k21:Lk 21=false:=by
     cases hx:Lk 21 with
     | false=>rfl
     | true=>exact absurd (HH.out.y19 (HH.out.x20 (HH.out.x21 hx))) (by rw [hun'];decide)
    have c0:=cm0 k21;refine ⟨by rfl,.inl ⟨_,W,?_,HH.out.quiet (i:=10) rfl (by decide) (by decide) (by decide)⟩⟩;unfold execOp;simp only [Act.eval,hlo3];go_simp
  | 11,_ =>
    obtain rfl:=Option.some.inj (show some _=some o from ho);refine ⟨by rfl,.inl ⟨_,W,?_,HH.out.quiet (i:=11) rfl (by decide) (by decide) (by decide)⟩⟩;unfold execOp;simp only [Act.eval,hlo2];go_simp
  | 12,_ =>
    obtain rfl:=Option.some.inj (show some _=some o from ho);have s11:=hq 11 (hed ⟨11,.data⟩ (by simp) rfl) _ rfl;refine ⟨by rfl,.inl ⟨_,W,?_,HH.out.quiet (i:=12) rfl (by decide) (by decide) (by decide)⟩⟩;unfold execOp;simp only [Act.eval,s11];go_simp
  | 13,_ =>
    obtain rfl:=Option.some.inj (show some _=some o from ho);have s12:=hq 12 (hed ⟨12,.data⟩ (by simp) rfl) _ rfl;refine ⟨by rfl,.inl ⟨_,W,?_,HH.out.quiet (i:=13) rfl (by decide) (by decide) (by decide)⟩⟩;unfold execOp;simp only [Act.eval,s12];go_simp
  | 14,_ =>
    obtain rfl:=Option.some.inj (show some _=some o from ho);have s13:=hq 13 (hed ⟨13,.data⟩ (by simp) rfl) _ rfl;refine ⟨by rfl,.inl ⟨_,W,?_,HH.out.quiet (i:=14) rfl (by decide) (by decide) (by decide)⟩⟩;unfold execOp;simp only [Act.eval,s13];go_simp
  | 15,_ =>
    obtain rfl:=Option.some.inj (show some _=some o from ho);refine ⟨by rfl,.inl ⟨_,W,?_,HH.out.quiet (i:=15) rfl (by decide) (by decide) (by decide)⟩⟩;unfold execOp;simp only [Act.eval,hlo0];go_simp
  | 16,_ =>
    obtain rfl:=Option.some.inj (show some _=some o from ho);have s14:=hq 14 (hed ⟨14,.data⟩ (by simp) rfl) _ rfl;have s15:=hq 15 (hed ⟨15,.data⟩ (by simp) rfl) _ rfl;refine ⟨by rfl,.inl ⟨_,W,?_,HH.out.quiet (i:=16) rfl (by decide) (by decide) (by decide)⟩⟩;unfold execOp;simp only [Act.eval,s14,s15];go_simp
  | 17,_ =>
    obtain rfl:=Option.some.inj (show some _=some o from ho);have s16:=hq 16 (hed ⟨16,.data⟩ (by simp) rfl) _ rfl;refine ⟨by rfl,.inl ⟨_,W,?_,HH.out.quiet (i:=17) rfl (by decide) (by decide) (by decide)⟩⟩;unfold execOp;simp only [Act.eval,s16];go_simp
  | 18,_ =>
    obtain rfl:=Option.some.inj (show some _=some o from ho);have s17:=hq 17 (hed ⟨17,.data⟩ (by simp) rfl) _ rfl;exact ⟨by rfl,.inl ⟨_,_,op_bs2 _ _ W (.tmp 22) mi rfl s17,HH.out.made18⟩⟩
  | 19,_ =>
    obtain rfl:=Option.some.inj (show some _=some o from ho);obtain ⟨v',W',hr,hh⟩:=HH.out.app19 (hed ⟨10,.data⟩ (by simp) rfl) (hed ⟨18,.data⟩ (by simp) rfl) (hed ⟨9,.chain⟩ (by simp) rfl) hun' ⟨hb.1,hb.2.1⟩ hbase hml hob2 24;exact ⟨by rfl,.inl ⟨v',W',op_ap _ _ W W' (.tmp 15) (.tmp 23) _ v' rfl hr,hh⟩⟩
  | 20,_ =>
    obtain rfl:=Option.some.inj (show some _=some o from ho);have c0:=cs0 hun';have q0:W.frozen? ⟨bs,0,none⟩=false:=(HH.out.ha.row hun').soft 0;obtain ⟨A',c',e1,_⟩:=HH.out.ha.a9T (hed ⟨9,.data⟩ (by simp) rfl);have hst:=HH.out.store20 (hed ⟨19,.chain⟩ (by simp) rfl) hun' ⟨hb.1,hb.2.1⟩ hbase hsb;rw [e1] at hst;refine ⟨by rfl,.inr ⟨_,?_,hst⟩⟩;unfold execOp;simp only [Act.eval,hlo1,e1];go_simp
  | 21,_ =>
    obtain rfl:=Option.some.inj (show some _=some o from ho);have c0:=cm0 hun';have q0:W.frozen? ⟨bm,0,none⟩=false:=(HH.out.hb.row hun').soft 0;obtain ⟨A',c',e1,_⟩:=HH.out.hb.a9T (hed ⟨19,.data⟩ (by simp) rfl);have hst:=HH.out.store21 (hed ⟨20,.chain⟩ (by simp) rfl) hun' ⟨hb.1,hb.2.1⟩ hbase hsb;rw [e1] at hst;refine ⟨by rfl,.inr ⟨_,?_,hst⟩⟩;unfold execOp;simp only [Act.eval,hlo3,e1];go_simp
  | n+22,hn=>exact absurd hn (by omega)
end Go.Proofs.YtpkocnpamcchcaaGreatDoor
namespace Go.Proofs.YtpkocnpamcchcaaGreatDoor
open Go.RowKit Go.Zone Go.Shelf
attribute [local go_sem] zone stepZ fill lookFs goes goesUpon dropFs cell_gro frozen_gro size_gro lt_add drew_gro tape_gro keep_refl
def irI(xs:List Int):Ir:=⟨none,0,xs⟩
def idsG(c:Cfg)(rows:List (List Val)):List (List Int):=c.split.map fun p=>(idsOf (colV rows p.toNat)).map fun x:Nat=>(x:Int)
def manyG(c:Cfg)(rows:List (List Val)):List Int:=c.split.map fun p=>((dOwn (colV rows p.toNat)).length:Int)
def starG(cs:List Col)(c:Cfg)(rows:List (List Val)):List UInt8 :=
 let rs:=Star.togF (srcF ((idsG c rows).map irI) ((metsG cs rows cs.length).map irI) rows.length)
 treeB c.split.length (metsG cs rows cs.length).length (Star.growF c.leaf.toNat c.split.length 0 0 rs.length false rs 0).1 (Star.growF c.leaf.toNat c.split.length 0 0 rs.length false rs 0).2
def imgG(cs:List Col)(c:Cfg)(rows:List (List Val)):List (ByteArray × List UInt8) :=
 [(⟨#[115,99,104,101,109,97]⟩,schB cs c),(⟨#[114,111,119,115]⟩,le rows.length 4)]++(List.range cs.length).flatMap (colG cs c rows)++(if c.split=[] then [] else [(⟨#[115,116,97,114]⟩,starG cs c rows)])
theorem irI_xs(l:List (List Int)):(l.map irI).map (fun r=>r.xs)=l:=by
 rw [List.map_map];exact List.map_id'' (fun _=>rfl) l
theorem srcF_xs{sp sp' mt mt':List Ir}(h:sp.map (fun r=>r.xs)=sp'.map fun r=>r.xs)(h':mt.map (fun r=>r.xs)=mt'.map fun r=>r.xs)(R:Nat):srcF sp mt R=srcF sp' mt' R:=by
 have hl:sp.length=sp'.length:=by simpa using congrArg List.length h
 have e:∀ i:Nat,recI sp mt i=recI sp' mt' i:=fun i=>by
  have e1:(sp.take sp.length).map (fun r=>r.xs.getD i 0)=(sp'.take sp'.length).map fun r=>r.xs.getD i 0:=by
   have:=congrArg (List.map fun x:List Int=>x.getD i 0) h
   simpa [List.map_map,Function.comp_def] using this
  have e2:mt.map (fun r=>((r.xs.getD i 0,r.xs.getD i 0,r.xs.getD i 0):Int × Int × Int))=mt'.map fun r=>(r.xs.getD i 0,r.xs.getD i 0,r.xs.getD i 0):=by
   have:=congrArg (List.map fun x:List Int=>((x.getD i 0,x.getD i 0,x.getD i 0):Int × Int × Int)) h'
   simpa only [List.map_map,Function.comp_def] using this
  unfold recI rowsJ sumJ;rw [e1,hl]
  congr 1
 unfold srcF;exact List.map_congr_left fun i _=>e i
theorem pickL{α β:Type}(P:α→β→Prop):∀ (l:List α),(∀ x∈l,∃ y,P x y)→∃ L:List β,L.length=l.length∧∀ j (h:j<l.length) (h':j<L.length),P l[j] L[j]
 | [],_=>⟨[],rfl,fun j h=>absurd h (Nat.not_lt_zero _)⟩
 | a :: l,h=>by
   obtain ⟨y,hy⟩:=h a (by simp);obtain ⟨L,h1,h2⟩:=pickL P l fun x hx=>h x (by simp [hx]);refine ⟨y :: L,by simp [h1],fun j hj hj'=>?_⟩
   cases j with
   | zero=>exact hy
   | succ j=>exact h2 j (by simpa using hj) (by simpa using hj')
theorem kids_le(x:Star.SN):∀ ns:List Star.SN,x∈ns→8*x.kids.length≤Star.wN ns
 | y :: r,h=>by
   rw [Star.wN_cons]
   rcases List.mem_cons.1 h with e|e
   ·subst e;omega
   ·have:=kids_le x r e;omega
theorem grow_kids(leaf k:Nat)(hl:1≤leaf)(hk:k≤8)(rs:List Star.SR)(hr:rs.length≤64):∀ x∈(Star.growF leaf k 0 0 rs.length false rs 0).2,x.kids.length≤100000:=fun x hx=>by
 have h:=Star.grow_adds leaf 0 0 hl k 0 0 rs.length rs 0 (Nat.zero_le _) (Nat.le_refl _);have hw:=h.wt;have hs:=Star.sumU_le k;have h2:(k+1)*(k+1)≤9*9:=Nat.mul_le_mul (by omega) (by omega);have h3:(rs.length-0)*Star.sumU k≤64*81:=Nat.mul_le_mul (by omega) (by omega);have:=kids_le x _ hx;omega
theorem n64_i64{w:World}{c:Nat}{A:Option Addr}{xs:List Nat}(h:Sl w 1 n64V A c xs):Sl w 1 i64V A c (xs.map fun x:Nat=>(x:Int)) :=
 ⟨by simpa using h.cap,h.big,by simpa using h.len,fun i hi=>by
  obtain ⟨b,off,e,h1⟩:=h.at_ i (by simpa using hi);refine ⟨b,off,e,fun j u hu=>h1 j u ?_⟩;rw [List.getElem_map] at hu;exact hu⟩
section
variable {W:World} {base b gi gq nc:Nat} {mk:Value→Value→List Value} {cs:List Col} {c:Cfg} {rows:List (List Val)} {S0:List (ByteArray × List UInt8)} {o M:Value} {S:List Sec} {MT:List Ir} {vi vq:List Value}
theorem BSt.split(h:BSt W base b gi gq nc mk cs c rows S0 nc o M S MT vi vq)(hnc:nc=cs.length)(hf:Fits cs c)(hr:rows.length≤64)(hne:c.split≠[]) :
 ∃ L:List Ir,L.length=c.split.length∧(∀ j (h:j<c.split.length) (h':j<L.length),∃ p:Nat,c.split[j]=(p:Int)∧p<nc∧vi[p]? =some (.slice L[j].A L[j].xs.length L[j].c)∧vq[p]? =some (.int .i64 ((dOwn (colV rows p)).length:Int))∧(manyG c rows)[j]? =some ((dOwn (colV rows p)).length:Int)) ∧
   IrAt W L∧L.map (fun r=>r.xs)=idsG c rows∧SplitOk L (manyG c rows) rows.length:=by
 have hcl:∀ p:Nat,(colV rows p).length=rows.length:=fun p=>by simp [colV]
 obtain ⟨L,hL,hP⟩:=pickL (fun (x:Int) (r:Ir)=>∃ p:Nat,x=(p:Int)∧p<nc∧vi[p]? =some (.slice r.A r.xs.length r.c)∧vq[p]? =some (.int .i64 ((dOwn (colV rows p)).length:Int))∧Sl W 1 i64V r.A r.c r.xs∧r.xs=(idsOf (colV rows p)).map fun x:Nat=>(x:Int)) c.split fun x hx=>by
  obtain ⟨j,hj,rfl⟩:=List.getElem_of_mem hx;have hd:=hf.split j hj;obtain ⟨h0,h1⟩:=dim_rng hd;obtain ⟨p,hp⟩:=Int.eq_ofNat_of_zero_le h0;rw [hp] at hd;have hpn:p<nc:=by omega
  obtain ⟨g,cc,h2,h3,h4⟩:=h.dims p hpn hd;have hil:(idsOf (colV rows p)).length=rows.length:=by rw [← hcl p];simp [idsOf]
  obtain ⟨A',c',e,hs⟩:=h3.sl n64_len (by omega);injection e with e1 e2 e3;subst e1;subst e3;exact ⟨⟨some ⟨g,0,none⟩,cc,(idsOf (colV rows p)).map fun x:Nat=>(x:Int)⟩,p,hp,hpn,by rw [h2];simp [hil],h4,n64_i64 hs,rfl⟩
 have hmy:∀ j (hj:j<c.split.length),(manyG c rows)[j]? =some ((dOwn (colV rows (c.split[j]).toNat)).length:Int):=fun j hj=>by
  unfold manyG;rw [List.getElem?_map,List.getElem?_eq_getElem hj];rfl
 have hxs:L.map (fun r=>r.xs)=idsG c rows:=by
  apply List.ext_getElem
  ·simp [idsG,hL]
  ·intro j h1 h2;have hj:j<L.length:=by simpa using h1
   obtain ⟨p,e,_,_,_,_,e2⟩:=hP j (by omega) hj;simp only [List.getElem_map,idsG,e2,e,Int.toNat_natCast]
 refine ⟨L,hL,fun j hj hj'=>?_,fun r hr=>?_,hxs,?_⟩
 ·obtain ⟨p,e,h1,h2,h3,_,_⟩:=hP j hj hj';exact ⟨p,e,h1,h2,h3,by rw [hmy j hj,e];rfl⟩
 ·obtain ⟨j,hj,rfl⟩:=List.getElem_of_mem hr;obtain ⟨p,_,_,_,_,h4,_⟩:=hP j (by omega) hj;exact h4
 ·have hpos:=List.length_pos_iff.2 hne;have hfew:=hf.few;refine ⟨by omega,by omega,by simp [manyG,hL],fun r hr=>?_,fun j hj h2=>?_⟩
  ·obtain ⟨j,hj,rfl⟩:=List.getElem_of_mem hr;obtain ⟨p,_,_,_,_,_,e⟩:=hP j (by omega) hj;rw [e,List.length_map,idsOf,List.length_map,hcl p]
  ·obtain ⟨p,e,_,_,_,_,e2⟩:=hP j (by omega) hj;have hm:=hmy j (by omega);rw [List.getElem?_eq_getElem h2,e,Int.toNat_natCast] at hm;rw [Option.some.inj hm,e2];have h5:=dOwn_len (colV rows p);rw [hcl p] at h5;refine ⟨by omega,by omega,fun x hx=>?_⟩;obtain ⟨y,hy,rfl⟩:=List.mem_map.1 hx;have:=ids_lt _ y hy;omega
theorem own_slI{α:Type}{w:World}{bb n c:Nat}{e:TypeId}{enc:α→List Value}{A:Option Addr}{xs:List α}(h:Own w bb e 1 enc (.slice A n c) xs)(hk:∀ x,(enc x).length=1)(hl:xs.length≤140737488355328):Sl w 1 enc A c xs:=by
 obtain ⟨A',c',e,hs⟩:=h.sl hk hl;injection e with e1 e2 e3;rw [e1,e3];exact hs
theorem mets_row{cs:List Col}{rows:List (List Val)}{i:Nat}{x:List Int}(h:x∈metsG cs rows i):x.length=rows.length:=by
 obtain ⟨q,_,e⟩:=List.mem_map.1 h;rw [← e];simp [numsV,colV]
theorem BSt.sof(h:BSt W base b gi gq nc mk cs c rows S0 nc o M S MT vi vq){L0:List Ir}{base2 k c8 c9 cm leaf:Nat}{As Am C:Option Addr}{wr:World}(hl:L0.length=c.split.length)(hir:IrAt W L0)(hok:SplitOk L0 (manyG c rows) rows.length)(hnc:nc≤256)(hr:rows.length≤64)(hk:k=c.split.length)
 (hK:Keep W wr) (hS:OwnSp wr base2 (.slice As k c8) L0) (hM:OwnMy wr base2 (.slice Am k c9) (manyG c rows)) (h8:c.split.length≤8) (hl1:1≤leaf) (hl2:leaf≤1000000) (hMv:M=.slice C MT.length cm) :
 Calls Tryz.prog 36 #[.slice As k c8,.slice Am k c9,.slice C MT.length cm,.int .i64 leaf] wr fun e w'=>∃ gt vr vn P N,e=.returned (.tuple #[.pointer (some ⟨gt,0,none⟩),.int .i64 0])∧StarAt w' gt wr.heap.size k MT.length leaf vr vn P N ∧
  (P.map fun p=>p.2)=(Star.growF leaf k 0 0 (Star.togF (srcF L0 MT rows.length)).length false (Star.togF (srcF L0 MT rows.length)) 0).1∧(N.map fun p=>p.2)=(Star.growF leaf k 0 0 (Star.togF (srcF L0 MT rows.length)).length false (Star.togF (srcF L0 MT rows.length)) 0).2∧Keep wr w':=by
 have hm:(manyG c rows).length=k:=by rw [hk];simp [manyG]
 have hl0:L0.length=k:=by omega
 have hmt:=h.few.2;have hrow:∀ r∈MT,r.xs.length=rows.length:=fun r hr=>by
  have h1:r.xs∈metsG cs rows nc:=by rw [← h.mx];exact List.mem_map_of_mem hr
  exact mets_row h1
 have hs1:=own_slI hS ir_len (by omega);have hs2:=own_slI hM i64_len (by omega);have hs3:=own_slI (n:=MT.length) (by rw [← hMv];exact h.mt.keep hK) ir_len (by omega);have hs4:IrAt wr MT:=fun r hr=>own_slI (n:=r.xs.length) ((h.mr r hr).keep hK) i64_len (by have h6:=hrow r hr;omega);have hsof:=sof_any As Am C c8 c9 cm leaf rows.length L0 MT (manyG c rows) wr hs1 (hir.keep hK) hs2 hs3 hs4 hok (by omega) hl1 hl2 (by omega) hrow;rw [hl0,hm] at hsof;exact hsof
end
theorem sfree1{P:Program}{ops:Array Oper}{w:World}{o:Oper}{a:Act}{fs:Zone.Frees}{Ψ:Zone.Pred}{d:Tmp}{Φ:Zone.Pred}(hl:Zone.lookFs ops o fs=[(d,Φ)])
 (h:∀ p v,Φ v (w.gro p)→if Region.wanted o (yielded ops (a.put (some d) v).tmps) then Zone.goes P o (a.put (some d) v) (w.gro p) Ψ else Ψ undef (w.gro p)):Zone.stepZ P ops w o a fs Ψ:=fun p=>by
 rw [hl];exact fun v hv=>h p v hv
def StarP(k m leaf:Nat)(ps:List Star.SR)(ns:List Star.SN)(gt:Nat)(W:World):Prop:=∃ lo vr vn P N,StarAt W gt lo k m leaf vr vn P N∧(P.map fun p=>p.2)=ps∧(N.map fun p=>p.2)=ns
theorem StarP.keep{k m leaf:Nat}{ps:List Star.SR}{ns:List Star.SN}{gt:Nat}{W W':World}(h:StarP k m leaf ps ns gt W)(hk:Keep W W'):StarP k m leaf ps ns gt W':=by
 obtain ⟨lo,vr,vn,P,N,h1,h2,h3⟩:=h;exact ⟨lo,vr,vn,P,N,h1.keep hk,h2,h3⟩
def StarT(k m leaf:Nat)(ps:List Star.SR)(ns:List Star.SN)(u:Value)(W:World):Prop:=∃ gt,u=.tuple #[.pointer (some ⟨gt,0,none⟩),.int .i64 0]∧StarP k m leaf ps ns gt W
def StarG(k m leaf:Nat)(ps:List Star.SR)(ns:List Star.SN)(u:Value)(W:World):Prop:=∃ gt,u=.pointer (some ⟨gt,0,none⟩)∧StarP k m leaf ps ns gt W
theorem StarT.mono{k m leaf:Nat}{ps:List Star.SR}{ns:List Star.SN}:Zone.Mono (StarT k m leaf ps ns):=fun _ _ _ hk ⟨g,h1,h2⟩=>⟨g,h1,h2.keep hk⟩
theorem StarG.mono{k m leaf:Nat}{ps:List Star.SR}{ns:List Star.SN}:Zone.Mono (StarG k m leaf ps ns):=fun _ _ _ hk ⟨g,h1,h2⟩=>⟨g,h1,h2.keep hk⟩
theorem star_tree{cs:List Col}{c:Cfg}{rows:List (List Val)}{L0 MT:List Ir}{leaf R k:Nat}(h1:L0.map (fun r=>r.xs)=idsG c rows)(h2:MT.map (fun r=>r.xs)=metsG cs rows cs.length)(hl:c.leaf=(leaf:Int))(hR:rows.length=R)(hk:c.split.length=k) :
 treeB k MT.length (Star.growF leaf k 0 0 (Star.togF (srcF L0 MT R)).length false (Star.togF (srcF L0 MT R)) 0).1 (Star.growF leaf k 0 0 (Star.togF (srcF L0 MT R)).length false (Star.togF (srcF L0 MT R)) 0).2=starG cs c rows:=by
 have e1:srcF L0 MT R=srcF ((idsG c rows).map irI) ((metsG cs rows cs.length).map irI) rows.length:=by
  rw [hR];exact srcF_xs (by rw [irI_xs];exact h1) (by rw [irI_xs];exact h2) R
 have e2:MT.length=(metsG cs rows cs.length).length:=by rw [← h2,List.length_map]
 have e3:c.leaf.toNat=leaf:=by rw [hl,Int.toNat_natCast]
 unfold starG;rw [e1,e2,e3,hk]
theorem tog_len64{L0 MT:List Ir}{R:Nat}(h:R≤64):(Star.togF (srcF L0 MT R)).length≤64:=by
 have:=Star.togF_len (srcF L0 MT R);rw [show (srcF L0 MT R).length=R by simp [srcF]] at this;omega
end Go.Proofs.YtpkocnpamcchcaaGreatDoor
