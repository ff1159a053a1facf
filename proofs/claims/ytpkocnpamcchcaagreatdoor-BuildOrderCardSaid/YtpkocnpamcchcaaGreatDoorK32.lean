/- Parts of the proof. -/
import Derived.Test.YtpkocnpamcchcaaGreatDoorK30
import Derived.Test.YtpkocnpamcchcaaGreatDoorK31
set_option maxRecDepth 100000
set_option maxHeartbeats 4000000
set_option linter.unusedSimpArgs false
set_option linter.unusedVariables false
set_option linter.unnecessarySimpa false
namespace Go.Proofs.YtpkocnpamcchcaaGreatDoor
open Go.RowKit Go.Zone Go.Shelf
attribute [local go_sem] zone stepZ fill lookFs goes goesUpon dropFs cell_gro frozen_gro size_gro lt_add drew_gro tape_gro keep_refl
attribute [local go_sem] lt_add2 lt_add3 lt_add4 lt_add5 lt_add6 lt_add7 lt_add8 lt_add9 lt_add10 lt_add11 lt_add12
attribute [local go_sem ↓] to_fastL to_fastS to_fastI
attribute [local go_sem] fast_load fast_store rd10_drew rd10_drewN rd10_gro thB_drew thB_set thB_drewN thB_gro size_setCells
theorem rec_cell{W:World}{base g N c:Nat}{L:List Rc}(h:OwnRc W base (.slice (some ⟨g,0,none⟩) N c) L)(hl:L.length=N)(k:Nat)(hk:k<L.length):∀ j u,L[k].cells[j]? =some u→W.cell? ⟨g,k*10+j,none⟩=some u:=(own_at h rc_len hl k hk).1
theorem box_row(W:World)(x:Rc):Row ((W.alloc (.cells #[.int .i64 0,.int .i64 0,.int .i64 0,.int .i64 0,.int .i64 0,.int .i64 0,.int .i64 0,.int .i64 0,.int .i64 0,.slice none 0 0] 158)).setCells W.heap.size 0 x.cells) W.heap.size 158 x.cells:=by
 have h0:=row_alloc W 158 [.int .i64 0,.int .i64 0,.int .i64 0,.int .i64 0,.int .i64 0,.int .i64 0,.int .i64 0,.int .i64 0,.int .i64 0,.slice none 0 0];have h:=(((((((((h0.set 0 (.int .i64 x.i0)).set 1 (.int .i64 x.i1)).set 2 (.int .i64 x.i2)).set 3 (.int .i64 x.i3)).set 4 (.int .i64 x.i4)).set 5 (.int .i64 x.i5)).set 6 (.int .i64 x.i6)).set 7 (.int .i64 x.i7)).set 8 (.int .i64 x.n)).set 9 (.slice x.A x.l x.c);exact h
theorem box_keep(W:World)(x:Rc):Keep W ((W.alloc (.cells #[.int .i64 0,.int .i64 0,.int .i64 0,.int .i64 0,.int .i64 0,.int .i64 0,.int .i64 0,.int .i64 0,.int .i64 0,.slice none 0 0] 158)).setCells W.heap.size 0 x.cells) :=
 Turn.after (show Keep W (W.alloc _) from Keep.alloc (Keep.refl _) _) (Turn.setCells W.heap.size x.cells 0 _) (fun i hi=>by simp at hi;omega)
theorem thB_new(W:World):thB (W.alloc (.cells #[.int .i64 0,.int .i64 0,.int .i64 0,.int .i64 0,.int .i64 0,.int .i64 0,.int .i64 0,.int .i64 0,.int .i64 0,.slice none 0 0] 158)) W.heap.size 0:=fun j hj=>by
 have h0:=row_alloc W 158 [.int .i64 0,.int .i64 0,.int .i64 0,.int .i64 0,.int .i64 0,.int .i64 0,.int .i64 0,.int .i64 0,.int .i64 0,.slice none 0 0];refine ⟨?_,by simpa using h0.soft (0+j)⟩;have:=h0.cell (0+j) _ (List.getElem?_eq_getElem (by simp;omega));rw [this];rfl
attribute [local go_sem] thB_new
attribute [local go_sem] run_ne_iv run_neG_iv fast_loadI rd8_drew rd8_drewN rd8_gro
theorem vown_some{α:Type}{w:World}{base k N c:Nat}{e:TypeId}{enc:α→List Value}{A:Option Addr}{xs:List α}(h:Zone.Own w base e k enc (.slice A N c) xs)(h0:0<xs.length):∃ g,A=some ⟨g,0,none⟩∧N=xs.length:=by
 rcases h.2 with ⟨_,hn⟩ | ⟨g,cap,cur,hv,_⟩
 ·omega
 ·injection hv with h1 h2 h3;exact ⟨g,h1,h2⟩
theorem tog_case{W:World}{base:Nat}{Q:List (Rc × Star.SR)}{x:Rc}{X:Star.SR}{b:Bool}(hQ:RecsAt W base Q)(hX:x.ids=X.ids)(hb:b=match Q.getLast? with|none=>true|some y=>!eq8 y.1 x) :
 (b=true→Star.togStep (Q.map (·.2)) X=Q.map (·.2)++[X])∧(b=false→∃ Q0 y,Q=Q0++[y]∧Star.togStep (Q.map (·.2)) X=Q0.map (·.2)++[y.2.add X]):=by
 rcases List.eq_nil_or_concat Q with hQ0 | ⟨Q0,y,hQ0⟩
 ·subst hQ0;refine ⟨fun _=>rfl,fun h=>?_⟩;rw [hb] at h
  cases h
 ·have hl:Q.getLast? =some y:=by rw [hQ0];simp
  have hy:=hQ y (by rw [hQ0];simp);rw [hl] at hb;simp only at hb;have h2:Star.togStep (Q.map (·.2)) X=if y.2.ids=X.ids then (Q.map (·.2)).dropLast++[y.2.add X] else Q.map (·.2)++[X]:=by
   unfold Star.togStep;rw [List.getLast?_map,hl];rfl
  have h3:eq8 y.1 x=true↔y.2.ids=X.ids:=by rw [eq8_ids,hy.ids,hX]
  refine ⟨fun h=>?_,fun h=>⟨Q0,y,by rw [hQ0];simp,?_⟩⟩
  ·rw [h2,if_neg];rw [← h3];rw [h] at hb
   simpa using hb.symm
  ·rw [h2,if_pos,hQ0]
   ·simp
   ·rw [← h3];rw [h] at hb
    simpa using hb.symm
theorem flat_set1{α:Type}{k:Nat}{enc:α→List Value}(hk:∀ x,(enc x).length=k)(L:List α)(i j:Nat)(hi:i<L.length)(hj:j<k)(u:Value)(y:α)(hy:enc y=(enc L[i]).set j u):(L.flatMap enc).set (i*k+j) u=(L.set i y).flatMap enc:=by
 have hsplit:L=L.take i++L[i] :: L.drop (i+1):=by
  rw [List.getElem_cons_drop hi,List.take_append_drop]
 have hL:L.flatMap enc=(L.take i).flatMap enc++(enc L[i]++(L.drop (i+1)).flatMap enc):=by
  conv=>lhs;rw [hsplit]
  rw [List.flatMap_append,List.flatMap_cons]
 have hS:(L.set i y).flatMap enc=(L.take i).flatMap enc++(enc y++(L.drop (i+1)).flatMap enc):=by
  rw [List.set_eq_take_append_cons_drop,if_pos hi,List.flatMap_append,List.flatMap_cons]
 have ht:((L.take i).flatMap enc).length=i*k:=by rw [flat_len hk,List.length_take];congr 1;omega
 rw [hS,hL,List.set_append_right _ _ (by rw [ht];omega),ht,show i*k+j-i*k=j by omega,List.set_append_left _ _ (by rw [hk];exact hj),hy]
theorem own_setj{α:Type}{W:World}{base g N c k:Nat}{e:TypeId}{enc:α→List Value}{L:List α}(h:Own W base e k enc (.slice (some ⟨g,0,none⟩) N c) L)(hk:∀ x,(enc x).length=k)(hl:L.length=N)(i j:Nat)(hi:i<L.length)(hj:j<k)(u:Value)(y:α)(hy:enc y=(enc L[i]).set j u):Own (W.setCell ⟨g,i*k+j,none⟩ u) base e k enc (.slice (some ⟨g,0,none⟩) N c) (L.set i y):=by
 subst hl;unfold Own at h ⊢;rw [List.length_set,← flat_set1 hk L i j hi hj u y hy];exact owns_setCells (xs:=[]) [u] _ _ _ h
theorem wrap_w64(x:Int):wrap64 x=Star.w64 x:=by unfold wrap64 Star.w64;rfl
theorem wp_lastv{P:Program}{s:Code}{Q:Exit→Act→World→Prop}{a:Act}{w:World}(h:∀ K:Act→World→Prop,K=Q .normal→s.wp P (Exit.then K Q) a w):s.wp P Q a w:=by
 refine wp_mono (h _ rfl) ?_;intro e a' w' hq
 cases e with
 | normal=>exact hq
 | exit id=>exact hq
 | goto l=>exact hq
 | ret=>exact hq
 | panic ch=>exact hq
 | outgrown=>exact hq
theorem soft_keep{w w':World}{g o:Nat}(h:Keep w w')(hb:g<w.heap.size)(hf:w.frozen? ⟨g,o,none⟩=false):w'.frozen? ⟨g,o,none⟩=false:=by
 have:=h.block g hb;simp only [World.frozen?] at hf ⊢;rw [this];exact hf
theorem sum3(W:World)(sb i:Nat)(a b c:Int):((W.setCell ⟨sb,i*3,none⟩ (.int .i64 (wrap64 a))).setCell ⟨sb,i*3+1,none⟩ (.int .i64 b)).setCell ⟨sb,i*3+2,none⟩ (.int .i64 c)=W.setCells sb (i*3) (smC (Star.w64 a,b,c)):=by
 rw [wrap_w64];rfl
def wz3(W:World)(sb i:Nat)(ta sa tl sl tg sg:Int):World:=((W.setCell ⟨sb,i*3,none⟩ (.int .i64 (wrap64 (ta+sa)))).setCell ⟨sb,i*3+1,none⟩ (.int .i64 (min tl sl))).setCell ⟨sb,i*3+2,none⟩ (.int .i64 (max tg sg))
theorem tog_any(g c base m:Nat)(P:List (Rc × Star.SR))(w:World)(hO:OwnRc w base (.slice (some ⟨g,0,none⟩) P.length c) (P.map (·.1)))(hR:RecsAt w base P)(hl:P.length≤1000000)(hm:m≤1000)(hW:∀ p∈P,p.2.sums.length=m) :
 Calls Tryz.prog 84 #[.slice (some ⟨g,0,none⟩) P.length c] w fun e w'=>∃ v Q,e=.returned v∧OwnRc w' w.heap.size v (Q.map (·.1))∧RecsAt w' w.heap.size Q∧Apart Q∧Q.map (·.2)=Star.togF (P.map (·.2))∧Turn w w' [g]:=by
 have HO:=lh hO;have HR:=lh hR;have HW:=lh hW;have HS:=lh (vsort_any g c base P.length (P.map (·.1)) w (by simp) hO (by omega));have hbg:=(hO.lt g rfl).2;clear hO hR hW;generalize hN:P.length=N at *;go_enter Tryz.func84,Tryz.ntmps84;go_wp2_with (go_at_call 138;refine hold ?_);refine unhold ?_;refine HS.out.mono ?_;rintro e w1 ⟨rfl,hown,hT⟩;obtain ⟨S,hS⟩:∃ S,S=Sym.ssort (fun x y:Rc × Star.SR=>vltC cmRc x.1 y.1) P:=⟨_,rfl⟩;have hS1:S.map (·.1)=Sym.ssort (vltC cmRc) (P.map (·.1)):=by rw [hS];exact Sym.ssort_map (lt:=fun x y:Rc × Star.SR=>vltC cmRc x.1 y.1) (lt':=vltC cmRc) (fun r=>r.1) (fun a b=>rfl) P
 have hS2:S.map (·.2)=Sym.ssort Star.ltR (P.map (·.2)):=by
  rw [hS,Sym.ssort_congr (lt2:=fun x y:Rc × Star.SR=>Star.ltR x.2 y.2) P fun a ha b hb=>by
   rw [ltRc,(HR.out a ha).ids,(HR.out b hb).ids];rfl]
  exact Sym.ssort_map (lt:=fun x y:Rc × Star.SR=>Star.ltR x.2 y.2) (lt':=Star.ltR) (fun r=>r.2) (fun a b=>rfl) P
 have hmem:∀ p,p∈S→p∈P:=fun p hp=>(Sym.ssort_perm (lt:=fun x y:Rc × Star.SR=>vltC cmRc x.1 y.1) P).mem_iff.1 (hS ▸ hp);have hSl:S.length=N:=by rw [hS,Sym.ssort_len,hN]
 have HSR:=lh (show RecsAt w1 base S from fun p hp=>RecsAt.turn HR.out HO.out (by decide) hT (fun i hi=>by simp at hi;subst hi;rfl) p (hmem p hp));have HSW:=lh (fun p hp=>HW.out p (hmem p hp));rw [← hS1] at hown;have HSO:=lh hown;have HS2:=lh hS2;have HSL:=lh hSl;have HT:=lh hT;have hbg1:g<w1.heap.size:=Nat.lt_of_lt_of_le hbg hT.size;clear hS hS1 hS2 hSl hmem hown hT HS HO HR HW hN hbg;go_wp2;go_loopw [2,13] (fun vo vi wr=>∃ (k nQ:Nat) (Q:List (Rc × Star.SR)),k≤N∧vi=.int .i64 k∧nQ≤k∧Hid (Q.length=nQ)∧Hid (OwnRc wr w1.heap.size vo (Q.map (·.1)))∧Hid (RecsAt wr w1.heap.size Q)∧Hid (Apart Q)∧Hid (Q.map (·.2)=((S.map (·.2)).take k).foldl Star.togStep [])∧Hid (∀ q∈Q,q.2.sums.length=m)∧Hid (Keep w1 wr)) (fun _ vi _=>N-(intOf vi).toNat)
 case atStart=>exact ⟨0,0,[],Nat.zero_le _,rfl,Nat.zero_le _,rfl,Own.nil_ _ _ _ _ _,(fun _ h=>(by cases h)),List.Pairwise.nil,rfl,(fun _ h=>(by cases h)),Keep.refl _⟩
 case round =>
  obtain ⟨k,nQ,Q,hk,rfl,hq,HNQ,HO,HQ,HA,HE,HQW,HK⟩:=hrel;obtain ⟨A,co,hvo⟩:=own_form HO.out;rw [List.length_map,HNQ.out] at hvo;subst hvo
  by_cases hlt:k<N
  ·have hkS:k<S.length:=by rw [HSL.out];exact hlt
   have hx:=own_at (HSO.out.keep HK.out) rc_len (by rw [List.length_map];exact HSL.out) k (by rw [List.length_map];exact hkS);have HX:=lh ((HSR.out S[k] (List.getElem_mem hkS)).keep HK.out);have HX1:=lh (HSR.out S[k] (List.getElem_mem hkS));have HXM:=lh (HSW.out S[k] (List.getElem_mem hkS));have HTK:=lh (show ((S.map (·.2)).take (k+1)).foldl Star.togStep []=Star.togStep (Q.map (·.2)) S[k].2 by
    rw [Star.tog_take _ k (by rw [List.length_map];exact hkS),← HE.out];simp)
   simp only [List.getElem_map] at hx;generalize S[k]=q at hx HX HX1 HXM HTK;obtain ⟨x,X⟩:=q;simp only at hx HX HX1 HXM HTK;have a0:=rd10_of hx.1;have hgw:=hx.2.2.1;clear hx hkS;go_upto_region 6 with fail;have hbr:=box_row wr x;have hbk:=box_keep wr x;generalize World.setCells (World.alloc wr _) _ _ _=w4 at hbr hbk ⊢;have HBK:=lh hbk;have hgx:=hbr.lt;have HGX:=lh (Nat.le_refl wr.heap.size);generalize hgx0:wr.heap.size=gx at hbr hgx ⊢;have HBR:=lh hbr;have HGX:=lh hgx0;have x0:rd8 w4 gx 0=some x.iv:=rd8_of fun j u hu=>by simpa using hbr.cell j u hu
   clear hbr hbk hgx0 a0;generalize hnI:(nQ:Int)-1=nI;have HO4:=lh (HO.out.keep HBK.out);go_cut [31] from 20 to 31 (fun s31 wx=>∃ b:Bool,s31=.bool b∧Hid (b=match Q.getLast? with|none=>true|some y=>!eq8 y.1 x)∧Hid (Keep w4 wx))
   case first =>
    rcases List.eq_nil_or_concat Q with hQ0 | ⟨Q0,y,hQ0⟩
    ·obtain rfl:nQ=0:=by rw [← HNQ.out,hQ0];rfl
     have HQ0:=lh (show Q.getLast? =none by rw [hQ0];rfl);obtain rfl:nI= -1:=by rw [← hnI];rfl
     clear hnI hQ0;go_quiet (fail);go_wp2_with fail;go_meet;exact ⟨true,rfl,by rw [HQ0.out];rfl,(by repeat first|exact kp0|apply kp1|apply kp2|apply kp3|apply kp4)⟩
    ·have hql:Q.length=Q0.length+1:=by rw [hQ0];simp
     have hlast:Q.getLast? =some y:=by rw [hQ0];simp
     obtain ⟨go,rfl,-⟩:=vown_some HO4.out (by rw [List.length_map];omega);have hgo:=(HO4.out.lt go rfl).2;have hyc:=rec_cell HO4.out (by rw [List.length_map];exact HNQ.out) Q0.length (by rw [List.length_map];omega);have hyy:(Q.map (·.1))[Q0.length]'(by rw [List.length_map];omega)=y.1:=by simp [hQ0]
     rw [hyy] at hyc;have hnq0:=HNQ.out;obtain ⟨n,hn⟩:∃ n,n=Q0.length:=⟨_,rfl⟩;rw [← hn] at hyc;obtain rfl:nI=((n:Nat):Int):=by omega
     have HLAST:=lh hlast;have hnq:n<nQ:=by omega
     clear hnI hlast hyy hQ0 hql hnq0 hn;obtain ⟨y,Y⟩:=y;simp only at hyc;have y0:rd8 w4 go (n*10)=some y.iv:=rd8_of hyc;clear hyc hq;have hn0:¬ ((n:Int)<0):=by omega
     have hn1:decide ((n:Int)<0)=false:=decide_eq_false hn0;go_quiet (fail);go_wp2_with fail;go_meet;exact ⟨!eq8 y x,rfl,by rw [HLAST.out];rfl,(by repeat first|exact kp0|apply kp1|apply kp2|apply kp3|apply kp4)⟩
   case rest =>
    rename World=>w5;obtain ⟨b,rfl,HB,HK5⟩:=hcut;clear x0;have hbr:=HBR.out.keep HK5.out;have hgx5:=hbr.lt;have HX5:=lh (HX.out.keep (HBK.out.trans HK5.out));have hxl:x.l=m:=HX.out.len.trans HXM.out;have x9:=hbr.cell 9 _ rfl;rw [hxl] at x9;have q9:=hbr.soft 9;have x8:=hbr.cell 8 _ rfl;have HBR5:=lh hbr;have HO5:=lh (HO4.out.keep HK5.out);clear hbr hgx HBR HO4
    cases b with
    | true =>
      have hsl:Sl w5 3 smC x.A x.c X.sums:=by
       obtain ⟨A1,c1,h1,h2⟩:=HX5.out.own.sl sm_len (by have:=HXM.out;omega);unfold Rc.sv at h1;injection h1 with e1 _ e2;rw [e1,e2];exact h2
      have hcl:=sclone_any x.A x.c X.sums w5 hsl (by have:=HXM.out;omega) HX5.out.nil_;rw [HXM.out] at hcl;have HCL:=lh hcl;clear hsl hcl;go_wp2_with (go_at_call 141;refine hold ?_);refine unhold ?_;refine HCL.out.mono ?_;rintro e w6 ⟨A',c',rfl,hown6,hnil,hk6⟩;have HS6:=lh hown6;have HNIL:=lh hnil;have HBR6:=lh (HBR5.out.keep hk6);have HK6:=lh hk6;have hgx6:=Nat.lt_of_lt_of_le hgx5 hk6.size;have p9:=HBR6.out.soft 9;have c9:=HBR6.out.cell 9 _ rfl;have hb7:=HBR6.out.set 9 (.slice A' m c');have HR7:=lh (show Row (w6.setCell ⟨gx,9,none⟩ (.slice A' m c')) gx 158 [.int .i64 x.i0,.int .i64 x.i1,.int .i64 x.i2,.int .i64 x.i3,.int .i64 x.i4,.int .i64 x.i5,.int .i64 x.i6,.int .i64 x.i7,.int .i64 x.n,.slice A' m c'] from hb7);have a1:rd10 (w6.setCell ⟨gx,9,none⟩ (.slice A' m c')) gx 0=some (.agg #[.int .i64 x.i0,.int .i64 x.i1,.int .i64 x.i2,.int .i64 x.i3,.int .i64 x.i4,.int .i64 x.i5,.int .i64 x.i6,.int .i64 x.i7,.int .i64 x.n,.slice A' m c']):=rd10_of (x:=⟨x.i0,x.i1,x.i2,x.i3,x.i4,x.i5,x.i6,x.i7,x.n,A',m,c'⟩) fun j u hu=>by simpa using hb7.cell j u hu
      clear hown6 hnil hk6 hb7 x8 x9 q9 hgx5 HCL;go_wp2_with (at_builtin;refine hold ?_);refine unhold ?_;have hkA:Keep wr (w6.setCell ⟨gx,9,none⟩ (.slice A' m c')):=Turn.after (HBK.out.trans (HK5.out.trans HK6.out)) (Turn.set _ _ _) (fun i hi=>by have:=HGX.out;simp at hi;omega);have hkB:Keep (w6.setCell ⟨gx,9,none⟩ (.slice A' m c')) ((w6.setCell ⟨gx,9,none⟩ (.slice A' m c')).alloc (.cells #[.int .i64 x.i0,.int .i64 x.i1,.int .i64 x.i2,.int .i64 x.i3,.int .i64 x.i4,.int .i64 x.i5,.int .i64 x.i6,.int .i64 x.i7,.int .i64 x.n,.slice A' m c'] 158)):=(by repeat first|exact kp0|apply kp1|apply kp2|apply kp3|apply kp4);have hslx:Sl ((w6.setCell ⟨gx,9,none⟩ (.slice A' m c')).alloc (.cells #[.int .i64 x.i0,.int .i64 x.i1,.int .i64 x.i2,.int .i64 x.i3,.int .i64 x.i4,.int .i64 x.i5,.int .i64 x.i6,.int .i64 x.i7,.int .i64 x.n,.slice A' m c'] 158)) 10 Rc.cells (some ⟨w6.heap.size,0,none⟩) 1 [(⟨x.i0,x.i1,x.i2,x.i3,x.i4,x.i5,x.i6,x.i7,x.n,A',m,c'⟩:Rc)]:=by
       have h:=row_alloc (w6.setCell ⟨gx,9,none⟩ (.slice A' m c')) 158 [.int .i64 x.i0,.int .i64 x.i1,.int .i64 x.i2,.int .i64 x.i3,.int .i64 x.i4,.int .i64 x.i5,.int .i64 x.i6,.int .i64 x.i7,.int .i64 x.n,.slice A' m c'];have e:(w6.setCell ⟨gx,9,none⟩ (.slice A' m c')).heap.size=w6.heap.size:=by simp
       rw [e] at h;exact sl_one _ (by omega) (by omega) fun j u hu=>h.cell j u hu
      have hkC:=hkA.trans hkB;have hS7:OwnSm ((w6.setCell ⟨gx,9,none⟩ (.slice A' m c')).alloc (.cells #[.int .i64 x.i0,.int .i64 x.i1,.int .i64 x.i2,.int .i64 x.i3,.int .i64 x.i4,.int .i64 x.i5,.int .i64 x.i6,.int .i64 x.i7,.int .i64 x.n,.slice A' m c'] 158)) w5.heap.size (.slice A' m c') X.sums :=
       (Own.turn HS6.out (Turn.set w6 ⟨gx,9,none⟩ (.slice A' m c')) fun i hi=>by
         simp only [List.mem_singleton] at hi;subst hi;exact own_row_ne HS6.out HBR6.out (by decide)).keep hkB
      have HZ5:=lh (show wr.heap.size≤w5.heap.size from (HBK.out.trans HK5.out).size);generalize World.alloc (World.setCell w6 _ _) _=w7 at hslx hkC hS7 ⊢;have HO7:=lh (HO.out.keep hkC);have HK7:=lh (HK.out.trans hkC);have HQ7:=lh (HQ.out.keep hkC);have HS7:=lh hS7;clear hkA hkB hkC hS7 a1 HR7 HBR6 HS6 HBR5 c9 p9 HO5 hgx6;refine wpList_app elt_rc rc_len rc_one rfl (.tmp 36) (.tmp 38) rfl (ys:=[(⟨x.i0,x.i1,x.i2,x.i3,x.i4,x.i5,x.i6,x.i7,x.n,A',m,c'⟩:Rc)]) HO7.out rfl rfl hslx (by rw [List.length_map,HNQ.out];simp;omega) HK7.out.size ?_;intro v8 w8 hown8 hg8 hd8;have HO8:=lh hown8;have HT8:=lh (Turn.of_grown hg8);have HK8:=lh (HO7.out.kept hg8 HK7.out (Nat.le_refl _));clear hown8 hg8 hd8 hslx;go_wp2;go_roundw
      case rel =>
       have hne:∀ i∈(Value.slice A nQ co).ownBlock.toList,(Value.slice A nQ co).ownBlock=some i:=fun i hi=>by simpa using hi
       have hb1:w1.heap.size≤w5.heap.size:=Nat.le_trans HK.out.size HZ5.out;have hnew:RecAt w8 w1.heap.size ⟨x.i0,x.i1,x.i2,x.i3,x.i4,x.i5,x.i6,x.i7,x.n,A',m,c'⟩ X:=⟨HX5.out.ids,HX5.out.n,(Own.turn HS7.out HT8.out fun i hi=>own_own_ne HO7.out HS7.out (by decide) i (hne i hi)).base_mono hb1,HNIL.out⟩;refine ⟨k+1,nQ+1,Q++[(⟨x.i0,x.i1,x.i2,x.i3,x.i4,x.i5,x.i6,x.i7,x.n,A',m,c'⟩,X)],by omega,by go_num,by omega,?_,?_,?_,?_,?_,?_,HK8.out⟩
       ·show List.length _=_;rw [List.length_append,HNQ.out];rfl
       ·show OwnRc _ _ _ _;rw [List.map_append];exact HO8.out
       ·show RecsAt _ _ _;intro p hp
        rcases List.mem_append.1 hp with hp|hp
        ·exact RecsAt.turn HQ7.out HO7.out (by decide) HT8.out hne p hp
        ·rw [List.mem_singleton] at hp;subst hp;exact hnew
       ·show Apart _;refine List.pairwise_append.2 ⟨HA.out,List.pairwise_singleton _ _,fun p hp q hq' b hb hb2=>?_⟩;rw [List.mem_singleton] at hq';subst hq';have h1:=((HQ.out p hp).own.lt b hb).2;have h2:=(HS7.out.lt b hb2).1;have:=HZ5.out;omega
       ·show List.map _ _=_;rw [HTK.out,(tog_case HQ.out HX5.out.ids HB.out).1 rfl,List.map_append];rfl
       ·show ∀ q∈_,_;intro q hq'
        rcases List.mem_append.1 hq' with hq'|hq'
        ·exact HQW.out q hq'
        ·rw [List.mem_singleton] at hq';subst hq';exact HXM.out
      case measure=>simp [intOf];omega
    | false =>
      obtain ⟨Q0,y,hQe,htog⟩:=(tog_case HQ.out HX5.out.ids HB.out).2 rfl;obtain ⟨y,Y⟩:=y;have HTOG:=lh htog;have hyM:(y,Y)∈Q:=by rw [hQe];simp
      have HY5:=lh ((HQ.out _ hyM).keep (HBK.out.trans HK5.out));have HYM:=lh (HQW.out _ hyM);have hyl:y.l=m:=HY5.out.len.trans HYM.out;obtain ⟨n,hn⟩:∃ n,n=Q0.length:=⟨_,rfl⟩;have hql:nQ=n+1:=by rw [← HNQ.out,hQe,hn];simp
      obtain ⟨go,rfl,-⟩:=vown_some HO5.out (by rw [List.length_map,HNQ.out];omega);have hLl:(Q.map (·.1)).length=nQ:=by rw [List.length_map];exact HNQ.out
      have hyy:(Q.map (·.1))[n]'(by rw [hLl];omega)=y:=by simp [hQe,hn]
      have hyc:=rec_cell HO5.out hLl n (by rw [hLl];omega);rw [hyy] at hyc;have y8:=hyc 8 _ rfl;have y9:=hyc 9 _ rfl;rw [hyl] at y9;have hgo:=(HO5.out.lt go rfl).2;have z8:w5.frozen? ⟨go,n*10+8,none⟩=false:=((own_at HO5.out rc_len hLl n (by rw [hLl];omega)).2.1 8 (by decide)).2;have HNN:=lh (And.intro hn hql);have HQE:=lh hQe;have HSET:=lh (fun (W:World) (u:Int) (h:OwnRc W w1.heap.size (.slice (some ⟨go,0,none⟩) nQ co) (Q.map (·.1)))=>own_setj h rc_len hLl n 8 (by rw [hLl];omega) (by decide) (.int .i64 u) { y with n:=u } (by rw [hyy];rfl));have hnq:n<nQ:=by omega
      obtain rfl:nI=((n:Nat):Int):=by omega
      have HQK:=lh hq;clear htog hyM hn hql hQe hLl hyy hyc hnI hq q9;go_upto_region 9 with fail;go_region;have HT9:=lh (show Turn w5 (w5.setCell ⟨go,n*10+8,none⟩ (.int .i64 (wrap64 (y.n+x.n)))).drew [go] from (Turn.set w5 ⟨go,n*10+8,none⟩ (.int .i64 (wrap64 (y.n+x.n)))).trans (Turn.keep (Keep.drew (Keep.refl _)) _));have HO9:=lh (show OwnRc (w5.setCell ⟨go,n*10+8,none⟩ (.int .i64 (wrap64 (y.n+x.n)))).drew _ _ _ from (HSET.out w5 (wrap64 (y.n+x.n)) HO5.out).keep (by repeat first|exact kp0|apply kp1|apply kp2|apply kp3|apply kp4));generalize (w5.setCell ⟨go,n*10+8,none⟩ (.int .i64 (wrap64 (y.n+x.n)))).drew=w9 at HT9 HO9 ⊢;have hgo1:w1.heap.size≤go∧go<wr.heap.size:=HO.out.lt go rfl;have HK9:=lh (Turn.after (HK.out.trans (HBK.out.trans HK5.out)) HT9.out (fun i hi=>by simp at hi;omega));have hgg:gx≠go:=by have:=HGX.out;omega
      have x9':=HT9.out.cell x9 (by simpa using hgg);have hgx9:=Nat.lt_of_lt_of_le hgx5 HT9.out.size;have hbl:=fun b hb=>(HQ.out _ (HQE.out ▸ List.mem_append_right _ (List.mem_singleton_self _))).own.lt b hb;have HBL:=lh (show ∀ b,blkR y=some b→w1.heap.size≤b∧b<wr.heap.size from hbl);have HY9:=lh (show RecAt w9 w1.heap.size y Y from HY5.out.turn HT9.out fun i hi=>own_own_ne HO5.out HY5.out.own (by decide) i (by simp at hi;subst hi;rfl));clear x8 x9 y8 y9 z8 hgo hgx5 hbl HSET;go_wp2;go_loopw [53] (fun vi wq=>∃ i:Nat,i≤m∧vi=.int .i64 i∧Hid (OwnSm wq w1.heap.size y.sv (Star.upd Y.sums X.sums i))∧Hid (Turn w9 wq (blkR y).toList)) (fun vi _=>m-(intOf vi).toNat)
      case atStart=>exact ⟨0,Nat.zero_le _,rfl,by rw [Star.upd_zero];exact HY9.out.own,Turn.refl _ _⟩
      case round =>
       obtain ⟨i,him,rfl,HSM,HTQ⟩:=hrel
       by_cases hilt:i<m
       ·have hxs:=HX1.out.own;unfold Rc.sv at hxs;obtain ⟨ax,hax,hlx⟩:=vown_some hxs (by rw [HXM.out];omega);have hkq:Keep w1 wr:=Turn.after HK9.out HTQ.out (fun b hb=>(HBL.out b (by simpa using hb)).1);obtain ⟨c0,_,hbx,_⟩:=own_at (hax ▸ hxs.keep hkq) sm_len hlx.symm i (by rw [HXM.out];omega);have hys:=HSM.out;unfold Rc.sv at hys;have hul:=Star.upd_len Y.sums X.sums (by rw [HXM.out,HYM.out]) i;obtain ⟨sb,hsb,hly⟩:=vown_some hys (by rw [hul,HYM.out];omega);rw [hsb] at hys;have hil:i<(Star.upd Y.sums X.sums i).length:=by rw [hul,HYM.out];exact hilt
        obtain ⟨d0,d1,hby,_⟩:=own_at hys sm_len hly.symm i hil;have hug:=Star.upd_get Y.sums X.sums (by rw [HXM.out,HYM.out]) i (by rw [HYM.out];exact hilt);rw [List.getElem?_eq_getElem hil] at hug;have hug':=Option.some.inj hug;rw [hug'] at d0;have hUS:=Star.upd_succ Y.sums X.sums (by rw [HXM.out,HYM.out]) i (by rw [HYM.out];exact hilt) (by rw [HXM.out];exact hilt);have hset:=fun (W:World) (h:OwnSm W w1.heap.size (.slice (some ⟨sb,0,none⟩) y.l y.c) (Star.upd Y.sums X.sums i))=>own_setk h sm_len hly.symm i hil (Star.addS Y.sums[i] X.sums[i]);rw [← hUS] at hset;have HSETS:=lh hset;have hYi:i<Y.sums.length:=by rw [HYM.out];exact hilt
        have hXi:i<X.sums.length:=by rw [HXM.out];exact hilt
        generalize X.sums[i]=s at c0 HSETS;generalize Y.sums[i]=t at d0 HSETS;obtain ⟨sa,sl,sg⟩:=s;obtain ⟨ta,tl,tg⟩:=t;have c0a:=c0 0 _ rfl;have c0b:=c0 1 _ rfl;have c0c:=c0 2 _ rfl;have d0a:=d0 0 _ rfl;have d0b:=d0 1 _ rfl;have d0c:=d0 2 _ rfl;have f0:=(d1 0 (by decide)).2;have f1:=(d1 1 (by decide)).2;have f2:=(d1 2 (by decide)).2;have hoq:OwnRc wr w1.heap.size (.slice (some ⟨go,0,none⟩) nQ co) ((Q.map (·.1)).set n { y with n:=wrap64 (y.n+x.n) }):=Own.turn HO9.out HTQ.out fun b hb=>own_own_ne HY9.out.own HO9.out (by decide) b (by simpa [blkR] using hb);have hln:((Q.map (·.1)).set n { y with n:=wrap64 (y.n+x.n) }).length=nQ:=by rw [List.length_set,List.length_map];exact HNQ.out
        have hyq:=rec_cell hoq hln n (by rw [hln];exact hnq);rw [List.getElem_set_self] at hyq;have y9:=hyq 9 _ rfl;have hgoq:=(hoq.lt go rfl).2;have HSM':=lh hys;have HSB:=lh hsb;have HTB:=lh (show blkR y=some sb by unfold blkR Rc.sv;rw [hsb];rfl);simp only at y9;rw [hsb,HY9.out.len,HYM.out] at y9;simp only [Nat.add_zero] at c0a d0a f0;clear c0 d0 d1 hxs hys hul hug hug' hUS hset hYi hXi hoq hln hyq hil hlx hly hsb HSM;go_upto_region 14 with fail;clear hax y9 x9' hgoq hgg hgx9 hbx;have hkz:Keep wr (wr.alloc (.cells #[.int .i64 sa,.int .i64 sl,.int .i64 sg] 160)):=Keep.alloc (Keep.refl _) _;have hrz:=row_alloc wr 160 [.int .i64 sa,.int .i64 sl,.int .i64 sg];have hrz:Row (wr.alloc (.cells #[.int .i64 sa,.int .i64 sl,.int .i64 sg] 160)) wr.heap.size 160 [.int .i64 sa,.int .i64 sl,.int .i64 sg]:=hrz;have hs1:sb≠wr.heap.size:=by omega
        generalize wr.alloc (.cells #[.int .i64 sa,.int .i64 sl,.int .i64 sg] 160)=wz at hkz hrz ⊢;generalize wr.heap.size=gs at hrz hs1 ⊢;have HKZ:=lh hkz;have HSMZ:=lh (HSM'.out.keep hkz);have e0:=hrz.cell 0 _ rfl;have e1:=hrz.cell 1 _ rfl;have e2:=hrz.cell 2 _ rfl;have hgs:=hrz.lt;have g0:=(hkz.cell (p:=⟨sb,i*3,none⟩) hby).trans d0a;have g1:=(hkz.cell (p:=⟨sb,i*3+1,none⟩) hby).trans d0b;have g2:=(hkz.cell (p:=⟨sb,i*3+2,none⟩) hby).trans d0c;have k0:=soft_keep hkz hby f0;have k1:=soft_keep hkz hby f1;have k2:=soft_keep hkz hby f2;have hbz:=Nat.lt_of_lt_of_le hby hkz.size;clear c0a c0b c0c d0a d0b d0c f0 f1 f2 HSM' hby hkz hrz;refine wp_lastv fun KL hKL=>?_;go_cut [] from 65 to 88 (fun wx=>Hid (OwnSm wx w1.heap.size (.slice (some ⟨sb,0,none⟩) y.l y.c) (Star.upd Y.sums X.sums (i+1)))∧Hid (Turn wz wx [sb]))
        case first =>
            first|refine Zone.wp_region_gro 24 (by kernel_rfl) (by kernel_rfl) ?_|refine Zone.wp_region 24 (by kernel_rfl) (by kernel_rfl) ?_
            simp only [List.take_succ_cons,List.take_zero,List.drop_succ_cons,List.drop_zero]
            repeat
             refine Zone.wpZ_step (fun K hK=>?_);go_simp
             first
             | (refine hK _ _ ?_;clear hK K)
             | (apply Exists.intro
                refine ⟨fun p=>?_,hK _ _ ?_⟩
                (fail)
                clear hK K)
            refine Zone.wpZ_nil ?_;intro p5;simp only [Zone.fill];have hk5:Keep wz (wz.gro p5):=Keep.gro (Keep.refl _) _;generalize wz.gro p5=w5b at hk5 ⊢;have q0:=(hk5.cell (p:=⟨sb,i*3,none⟩) hbz).trans g0;have q1:=(hk5.cell (p:=⟨sb,i*3+1,none⟩) hbz).trans g1;have q2:=(hk5.cell (p:=⟨sb,i*3+2,none⟩) hbz).trans g2;have r0:=soft_keep hk5 hbz k0;have r1:=soft_keep hk5 hbz k1;have r2:=soft_keep hk5 hbz k2;have HK5b:=lh hk5;clear hk5 g0 g1 g2 k0 k1 k2 e0 e1 e2 hgs hs1;have hw1:OwnSm (wz3 w5b sb i ta sa tl sl tg sg) w1.heap.size (.slice (some ⟨sb,0,none⟩) y.l y.c) (Star.upd Y.sums X.sums (i+1)):=by
             unfold wz3;rw [sum3];exact HSETS.out w5b (HSMZ.out.keep HK5b.out)
            have hw2:Turn w5b (wz3 w5b sb i ta sa tl sl tg sg) [sb]:=by
             unfold wz3;rw [sum3];exact Turn.setCells sb _ _ _
            have HW1:=lh hw1;have HW2:=lh hw2;clear hw1 hw2 HSETS;go_wp2_with fail;go_meet;exact ⟨HW1.out,(Turn.keep HK5b.out _).trans HW2.out⟩
        case rest =>
        rename World=>w10;obtain ⟨HW1,HW2⟩:=hcut;rw [hKL];clear e0 e1 e2 g0 g1 g2 k0 k1 k2 HSETS HSMZ hbz hgs hs1;go_wp2;go_roundw
        case rel =>
            refine ⟨i+1,by omega,by go_num,?_,?_⟩
            ·show OwnSm _ _ y.sv _;unfold Rc.sv;rw [HSB.out];exact HW1.out
            ·show Turn _ _ _;have e:(blkR y).toList=[sb]:=by rw [HTB.out];rfl
             have h1:=HTQ.out;rw [e] at h1 ⊢;exact (h1.trans (Turn.keep HKZ.out _)).trans HW2.out
        case measure=>simp [intOf];omega
       ·have hie:i=m:=by omega
        subst hie;clear hilt him x9';have HUP:=lh (show OwnSm wr w1.heap.size y.sv (List.zipWith Star.addS Y.sums X.sums) by
            rw [← Star.upd_all Y.sums X.sums (by rw [HXM.out,HYM.out]),HXM.out];exact HSM.out)
        go_wp2;go_roundw
        case rel =>
            have hn:=HNN.out.1;have hQ:=HQE.out;have hy':RecAt wr w1.heap.size { y with n:=wrap64 (y.n+x.n) } (Y.add X):=by
             refine ⟨HY9.out.ids,?_,HUP.out,fun e=>HY9.out.nil_ ?_⟩
             ·show wrap64 (y.n+x.n)=Star.w64 (Y.n+X.n);rw [wrap_w64,HY9.out.n,HX1.out.n]
             ·have e2:=congrArg List.length (show List.zipWith Star.addS Y.sums X.sums=[] from e);rw [List.length_zipWith,HXM.out,HYM.out] at e2;exact List.eq_nil_of_length_eq_zero (by rw [HYM.out];simpa using e2)
            have hap:=HA.out;rw [hQ] at hap;have hap2:=List.pairwise_append.1 hap;refine ⟨k+1,nQ,Q0++[({ y with n:=wrap64 (y.n+x.n) },Y.add X)],by omega,by go_num,by have:=HQK.out;omega,?_,?_,?_,?_,?_,?_,Turn.after HK9.out HTQ.out (fun b hb=>(HBL.out b (by simpa using hb)).1)⟩
            ·show List.length _=_;rw [List.length_append,← HNQ.out,hQ,List.length_append];rfl
            ·show OwnRc _ _ _ _;have h1:OwnRc wr w1.heap.size _ _:=Own.turn HO9.out HTQ.out fun b hb=>own_own_ne HY9.out.own HO9.out (by decide) b (by simpa [blkR] using hb);have e:(Q.map (·.1)).set n { y with n:=wrap64 (y.n+x.n) }=List.map (fun p:Rc × Star.SR=>p.1) (Q0++[(({ y with n:=wrap64 (y.n+x.n) }:Rc),Y.add X)]):=by
              rw [hQ,List.map_append,List.map_append,List.set_append_right _ _ (by rw [List.length_map];omega),List.length_map,hn,Nat.sub_self];rfl
             rw [← e];exact h1
            ·show RecsAt _ _ _;intro p hp
             rcases List.mem_append.1 hp with hp|hp
             ·have h1:=((HQ.out p (by rw [hQ];exact List.mem_append_left _ hp)).keep (HBK.out.trans HK5.out)).turn HT9.out fun i hi=>own_own_ne HO5.out ((HQ.out p (by rw [hQ];exact List.mem_append_left _ hp)).keep (HBK.out.trans HK5.out)).own (by decide) i (by simp at hi;subst hi;rfl);refine h1.turn HTQ.out fun i hi e=>?_;exact hap2.2.2 p hp (y,Y) (List.mem_singleton_self _) i e (by simpa using hi)
             ·rw [List.mem_singleton] at hp;subst hp;exact hy'
            ·show Apart _;refine List.pairwise_append.2 ⟨hap2.1,List.pairwise_singleton _ _,fun p hp q hq' b hb hb2=>?_⟩;rw [List.mem_singleton] at hq';subst hq';exact hap2.2.2 p hp (y,Y) (List.mem_singleton_self _) b hb hb2
            ·show List.map _ _=_;rw [HTK.out,HTOG.out,List.map_append];rfl
            ·show ∀ q∈_,_;intro q hq'
             rcases List.mem_append.1 hq' with hq'|hq'
             ·exact HQW.out q (by rw [hQ];exact List.mem_append_left _ hq')
             ·rw [List.mem_singleton] at hq';subst hq';show (List.zipWith Star.addS Y.sums X.sums).length=_;rw [List.length_zipWith,HXM.out,HYM.out,Nat.min_self]
        case measure=>simp [intOf];omega
  ·have hkN:k=N:=by omega
   subst hkN;go_wp2;go_ret;refine ⟨_,rfl,Q,HO.out.base_mono HT.out.size,HQ.out.base HT.out.size,HA.out,?_,HT.out.trans (Turn.keep HK.out _)⟩;rw [HE.out,List.take_of_length_le (by rw [List.length_map,HSL.out];exact Nat.le_refl _),HS2.out];rfl
end Go.Proofs.YtpkocnpamcchcaaGreatDoor
