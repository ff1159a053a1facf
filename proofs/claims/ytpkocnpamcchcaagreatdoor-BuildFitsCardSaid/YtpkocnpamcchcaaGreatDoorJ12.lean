/- Parts of the proof. -/
import Derived.Laws.IdiomStrings
import Derived.Test.YtpkocnpamcchcaaGreatDoorJ11
set_option maxRecDepth 100000
set_option maxHeartbeats 4000000
set_option linter.unusedSimpArgs false
set_option linter.unusedVariables false
namespace Go.Proofs.YtpkocnpamcchcaaGreatDoor
open Go.RowKit Go.Zone Go.Shelf
attribute [local go_sem] zone stepZ fill lookFs goes goesUpon dropFs cell_gro frozen_gro size_gro lt_add drew_gro tape_gro keep_refl
attribute [local go_sem] lt_add2 lt_add3 lt_add4 lt_add5 lt_add6 lt_add7 lt_add8 lt_add9 lt_add10 lt_add11 lt_add12
theorem slB_drop{w:World}{b off c:Nat}{B:List UInt8}(h:SlB w (some ⟨b,off,none⟩) c B)(p:Nat)(hp:p≤B.length):SlB w (some ⟨b,off+p,none⟩) (c-p) (B.drop p):=by
 have hc:=h.cap;have hb:=h.big;have hl:=h.len;refine ⟨by simp;omega,by omega,by simp;omega,fun i hi=>?_⟩;simp only [List.length_drop] at hi;obtain ⟨b',off',hA,hcell⟩:=h.at_ (p+i) (by omega)
 cases hA
 refine ⟨b,off+p,rfl,fun j u hu=>?_⟩;have:=hcell j u (by rw [List.getElem_drop] at hu;exact hu);rw [show off+p+i*1+j=off+(p+i)*1+j by omega];exact this
theorem strB{w:World}{A:Option Addr}{c:Nat}{l:List UInt8}(h:SlB w A c l):(convert 31 9 (.slice A l.length c)).run Tryz.prog w=.ok (.string ⟨l.toArray⟩) w:=by
 cases A with
 | none =>
   have hx:l=[]:=by
    rcases l with _ | ⟨y,r⟩
    ·rfl
    ·obtain ⟨_,_,hA,_⟩:=h.at_ 0 (by simp)
     cases hA
   subst hx;rw [run_convert_bytes_string w 31 9 5 none _ c Tryz.underlying31 Tryz.underlying5 Tryz.underlying9];rfl
 | some a =>
   refine run_convert_bytes_back w 31 9 5 a c l Tryz.underlying31 Tryz.underlying5 Tryz.underlying9 fun j hj=>?_;obtain ⟨b,off,hA,_,hc⟩:=sl_b8 h j hj;injection hA with hA;subst hA;unfold Addr.add
   split
   ·rename_i h0;subst h0;exact hc
   ·exact hc
theorem le4_get(n:Nat)(h:n<4294967296):((le n 4)[0]'(by simp [le_len])).toNat+256*((le n 4)[1]'(by simp [le_len])).toNat+65536*((le n 4)[2]'(by simp [le_len])).toNat+16777216*((le n 4)[3]'(by simp [le_len])).toNat=n:=by
 simp [le,UInt8.toNat_ofNat];omega
theorem unframe_any(A:Option Addr)(c p:Nat)(B x rest:List UInt8)(w:World)(h:SlB w A c B)(hp:p≤B.length)(hB:B.drop p=frameB x++rest)(hl:x.length≤1073741824) :
 Calls Tryz.prog 45 #[.slice A B.length c,.int .i64 p] w fun e w'=>∃ v,e=.returned (.tuple #[v,.int .i64 (p+x.length+8:Nat),.int .i64 0])∧OwnB w' w.heap.size v x∧Keep w w':=by
 have hlen:B.length=p+x.length+8+rest.length:=by
  have:=congrArg List.length hB;rw [List.length_drop,List.length_append,frameB_len] at this;omega
 obtain ⟨b,off,hA⟩:∃ b off,A=some ⟨b,off,none⟩:=by
  obtain ⟨b,off,hA,_⟩:=h.at_ 0 (by omega);exact ⟨b,off,hA⟩
 subst hA;have hs:=slB_drop h p hp;have hcap:=h.cap;have hbig:=h.big;have hbl:=h.len;have hge:p+x.length+8≤B.length:=by omega
 have HX:=lh (show SlB w (some ⟨b,off+p+4,none⟩) (c-p-4) x by
  have h4:=slB_drop hs 4 (by simp;omega);have:=h4.cut_front x.length (by simp;omega);rw [show ((B.drop p).drop 4).take x.length=x by
   rw [hB,frameB,List.append_assoc,List.append_assoc,List.drop_append_of_le_length (by simp [le_len])];simp [le_len,List.drop_of_length_le]] at this
  exact this)
 have HF:=lh (show SlB w (some ⟨b,off+p,none⟩) (c-p) (frameB x) by
  have:=hs.cut_front (x.length+8) (by simp;omega);rw [show (B.drop p).take (x.length+8)=frameB x by rw [hB,← frameB_len];simp] at this;exact this)
 have hd:∀ i,(hi:i<4)→(B.drop p)[i]'(by simp;omega)=(le x.length 4)[i]'(by simp [le_len];omega):=fun i hi=>by
  simp only [hB,frameB,List.append_assoc];rw [List.getElem_append_left (by simp [le_len];omega)]
 obtain ⟨_,_,hA0,_,c0⟩:=sl_b8 hs 0 (by simp;omega)
 cases hA0
 obtain ⟨_,_,hA1,_,c1⟩:=sl_b8 hs 1 (by simp;omega)
 cases hA1
 obtain ⟨_,_,hA2,_,c2⟩:=sl_b8 hs 2 (by simp;omega)
 cases hA2
 obtain ⟨_,_,hA3,hbs,c3⟩:=sl_b8 hs 3 (by simp;omega)
 cases hA3
 rw [hd 0 (by decide)] at c0;rw [hd 1 (by decide)] at c1;rw [hd 2 (by decide)] at c2;rw [hd 3 (by decide)] at c3;have hsum:=le4_get x.length (by omega);have u0:=((le x.length 4)[0]'(by simp [le_len])).toNat_lt;have u1:=((le x.length 4)[1]'(by simp [le_len])).toNat_lt;have u2:=((le x.length 4)[2]'(by simp [le_len])).toNat_lt;have u3:=((le x.length 4)[3]'(by simp [le_len])).toNat_lt;generalize ((le x.length 4)[0]'(by simp [le_len])).toNat=d0 at c0 hsum u0;generalize ((le x.length 4)[1]'(by simp [le_len])).toNat=d1 at c1 hsum u1;generalize ((le x.length 4)[2]'(by simp [le_len])).toNat=d2 at c2 hsum u2;generalize ((le x.length 4)[3]'(by simp [le_len])).toNat=d3 at c3 hsum u3;simp only [Nat.reducePow] at u0 u1 u2 u3;have HSU:=lh (show (d0:Int)+256*(d1:Int)+65536*(d2:Int)+16777216*(d3:Int)=(x.length:Int) by omega)
 replace c0:w.cell? ⟨b,off+p,none⟩=some (.int .u8 (d0:Int)):=c0
 clear h hs hB hlen hd hsum;have hbx:B.length-p≤c-p:=by omega
 have hb0:0<B.length-p:=by omega
 have hb1:1<B.length-p:=by omega
 have hb2:2<B.length-p:=by omega
 have hb3:3<B.length-p:=by omega
 go_enter Tryz.func45,Tryz.ntmps45;go_upto_region 6 with fail;go_region;rw [HSU.out];clear c0 c1 c2 c3;have hcp4:¬ c-p=4:=by omega
 have e4:4+x.length-4=x.length:=by omega
 go_wp2_with (at_builtin;refine hold ?_);refine unhold ?_;rw [e4];have HE:OwnB (w.alloc (.cells #[] 5)).drew w.heap.size (.slice (some ⟨w.heap.size,0,none⟩) 0 0) ([]:List UInt8) :=
  (own_empty (w.alloc (.cells #[] 5)) w.heap.size 5 1 b8 w.heap.size (Nat.le_refl _) (heap_alloc_new _ _)).keep (Keep.drew (Keep.refl _))
 refine wpList_app elt_u8 b8_len b8_one rfl (.tmp 53) (.tmp 57) rfl (ys:=x) HE rfl rfl (HX.out.keep (by repeat first|exact kp0|apply kp1|apply kp2|apply kp3|apply kp4)) (by simp;omega) (by simp) ?_;intro v2 w2 hown2 hg2 _;have ⟨a1,a2,_⟩:=HE.after (w:=w) hg2 (by repeat first|exact kp0|apply kp1|apply kp2|apply kp3|apply kp4) (Nat.le_refl _);rw [List.nil_append] at hown2;obtain ⟨L,A2,c2,rfl,HS2,HO2,HL2⟩:=ownB_open hown2 (by omega);have HA1:=lh a1;obtain ⟨n8,hn8⟩:∃ n8,n8=x.length+8:=⟨_,rfl⟩;have HF2:=lh (fun W (hW:Keep w2 W)=>(by have:=strB ((HF.out.keep a1).keep hW);rw [frameB_len,← hn8] at this;exact this:(convert 31 9 (.slice (some ⟨b,off+p,none⟩) n8 (c-p))).run Tryz.prog W=.ok (.string ⟨(frameB x).toArray⟩) W));have hwx:IntKind.i64.wrap ((x.length:Int)+8)=(n8:Int):=by rw [IntWalk.i64_in _ ⟨by omega,by omega⟩];omega
 have hcc:n8≤c-p:=by omega
 have HN8:=lh hn8;have HFB:=lh (fun W (hW:Keep w2 W)=>rframe_any A2 c2 L W (HS2.out.keep hW) (by rw [HL2.out];exact hl));have hlz:=frameB_len x;have HFL:=lh (show (frameB x).length≤140737488355328 by rw [hlz];omega);have HFE:=lh (show frameB L=frameB x by rw [HL2.out]);clear hown2 hg2 a1 a2 HE HX HF hlz hn8;go_upto_region 12 with fail
 first|refine Zone.wp_region_all_gro (by kernel_rfl) (by kernel_rfl) ?_|refine Zone.wp_region_all (by kernel_rfl) (by kernel_rfl) ?_
 refine Zone.wpZ_step (fun K hK=>?_);go_simp
 (refine hK _ _ ?_;clear hK K)
 refine Zone.wpZ_free 60 (fun u W=>∃ A c,u=.slice A (frameB x).length c∧SlB W A c (frameB x)) rfl (fun _ _ _ hk ⟨A,c,h1,h2⟩=>⟨A,c,h1,h2.keep hk⟩) ?_ ?_
 ·intro p;simp only [Zone.fill,Zone.lookFs,List.filter_nil];go_simp;go_at_call 93;refine (HFB.out _ (by repeat first|exact kp0|apply kp1|apply kp2|apply kp3|apply kp4)).mono ?_;rintro e w5 ⟨u,rfl,hown,hk⟩;rw [HFE.out] at hown;obtain ⟨A5,c5,hv5,hsl5⟩:=hown.sl b8_len HFL.out;exact ⟨u,rfl,⟨A5,c5,hv5,hsl5⟩,hk⟩
 ·simp only [Zone.dropFs,List.filter_nil];refine Zone.wpZ_step (fun K hK=>?_);refine Zone.zone_free1 (.string ⟨(frameB x).toArray⟩) (d:=60) (by rfl) (fun p u hu=>?_) (hK _ _ ?_)
  ·obtain ⟨A5,c5,rfl,hsl5⟩:=hu;have hstr:=strB hsl5;go_simp
  ·clear hK K;have hss:=fun q=>HF2.out (w2.gro q) (below_gro w2 q)
   iterate 6
    refine Zone.wpZ_step (fun K hK=>?_);unfold Zone.zone Zone.stepZ;rw [Zone.lookFs_nil (by rfl)];go_simp
    (refine hK _ _ ?_;clear hK K)
   clear hss;refine Zone.wpZ_nil ?_;intro q;simp only [Zone.fill];intro u hu;clear hu;go_wp2;exact bodyPost_ret (v:=.tuple #[.slice A2 L.length c2,.int .i64 ((p:Int)+(x.length:Int)+8),.int .i64 0]) (by simp [results,Tryz.results45,go_sem]) rfl
    ⟨.slice A2 L.length c2,by rw [show (((p+x.length+8:Nat)):Int)=(p:Int)+(x.length:Int)+8 by omega],by have:=HO2.out.keep (below_gro w2 q);rw [HL2.out] at this ⊢;exact this,HA1.out.trans (below_gro w2 q)⟩
theorem letter_any(b:Nat)(w:World):Calls Tryz.prog 43 #[.int .u8 (b:Int)] w fun e w'=>e=.returned (.bool (okS b))∧Keep w w':=by
 have HO:=lh (okS_spec b);go_enter Tryz.func43,Tryz.ntmps43;go_wp2
 all_goals go_ret
 all_goals refine ⟨ret_bool ?_,(by repeat first|exact kp0|apply kp1|apply kp2|apply kp3|apply kp4)⟩
 all_goals
  rw [Bool.eq_iff_iff,HO.out];simp only [Bool.and_eq_true,Bool.or_eq_true,decide_eq_true_eq,beq_iff_eq,true_iff,iff_true,Bool.false_eq_true,false_iff,iff_false];omega
theorem rsecf_any(A:Option Addr)(c:Nat)(l:List Sec)(n:ByteArray)(w:World)(h:Sl w 2 Sec.cells A c l) :
 Calls Tryz.prog 44 #[.slice A l.length c,.string n] w fun e w'=>e=.returned (.int .i64 (idxP (isSec n) l 0))∧Keep w w':=by
 have hl:=sl_len h;go_enter Tryz.func44,Tryz.ntmps44;go_wp2;go_loop [5] (fun i=>∃ k:Nat,k≤l.length∧i=.int .i64 k∧Hid (∀ j,(h:j<l.length)→j<k→isSec n l[j]=false)) (fun i=>l.length-(intOf i).toNat)
 case atStart=>exact ⟨0,Nat.zero_le _,rfl,fun j _ hj=>absurd hj (Nat.not_lt_zero _)⟩
 case round =>
  obtain ⟨k,hk,rfl,HR⟩:=hrel
  by_cases hlt:k<l.length
  ·obtain ⟨b,off,rfl,hb,h0,h1⟩:=sl_sec h k hlt;clear h h1
   cases hq:isSec n l[k]
   ·have hq2:=hq;unfold isSec at hq2;have HQ:=lh hq;clear hq;go_wp2;go_round
    case rel=>exact ⟨k+1,by omega,by go_num,fun j hj hjk=>by
     by_cases e:j=k
     ·subst e;exact HQ.out
     ·exact HR.out j hj (by omega)⟩
    case measure=>simp [intOf];omega
   ·have hq2:=hq;unfold isSec at hq2;have HQ:=lh hq;clear hq;go_wp2;go_ret;exact ⟨ret_int (by rw [idxP_at (isSec n) l 0 k HR.out,List.drop_eq_getElem_cons hlt];simp [idxP,HQ.out]),(by repeat first|exact kp0|apply kp1|apply kp2|apply kp3|apply kp4)⟩
  ·go_wp2;go_ret;exact ⟨ret_int (by rw [idxP_at (isSec n) l 0 l.length fun j hj _=>HR.out j hj (by omega)];simp [idxP]),(by repeat first|exact kp0|apply kp1|apply kp2|apply kp3|apply kp4)⟩
def posB(S:List Sec)(k:Nat):Nat:=6+((S.take k).flatMap secB).length
theorem image_drop(S:List Sec)(k:Nat):(imageB S).drop (posB S k)=(S.drop k).flatMap secB:=by
 have h:imageB S=([73,83,71,76]++le S.length 2++(S.take k).flatMap secB)++(S.drop k).flatMap secB:=by
  conv=>lhs;unfold imageB;rw [← List.take_append_drop k S,List.flatMap_append]
  simp
 rw [h,List.drop_left' (by simp [posB,le_len];omega)]
theorem posB_succ(S:List Sec)(k:Nat)(h:k<S.length):posB S (k+1)=posB S k+(S[k].name.size+S[k].bs.length+9):=by
 have hs:S[k].name.data.toList.length=S[k].name.size:=by rw [Lib.size_eq]
 simp only [posB];rw [List.take_succ_eq_append_getElem h,List.flatMap_append,List.length_append];simp only [List.flatMap_cons,List.flatMap_nil,List.append_nil,secB,List.length_append,frameB_len,List.length_singleton];omega
theorem posB_end(S:List Sec):posB S S.length=(imageB S).length:=by
 simp [posB,imageB,le_len];omega
theorem at_sec(S:List Sec)(k:Nat)(h:k<S.length):∃ rest,(imageB S).drop (posB S k)=[UInt8.ofNat S[k].name.size]++(S[k].name.data.toList++(frameB S[k].bs++rest)):=by
 refine ⟨(S.drop (k+1)).flatMap secB,?_⟩;rw [image_drop,List.drop_eq_getElem_cons h,List.flatMap_cons];simp [secB]
theorem info_sec:(Tryz.prog.info? 68).map (fun i=>(i.zero,i.size,i.bytes))=some (some (.agg #[.string ⟨#[]⟩,.slice none 0 0]),2,40):=by kernel_rfl
theorem elt_sec:Elt Tryz.prog 38 68 2 40:=by
 obtain ⟨i,hi,h1,h2,h3⟩:=info_parts info_sec;exact ⟨i,_,Tryz.underlying38,hi,h1,h2,h3,rfl,by decide,by decide⟩
theorem sec_len(x:Sec):x.cells.length=2:=rfl
theorem sec_one(x:Sec):∀ u∈x.cells,u.oneCell'=true:=by simp [Sec.cells,Value.oneCell']
abbrev OwnC(w:World)(base:Nat)(v:Value)(l:List Sec):Prop:=Own w base 68 2 Sec.cells v l
theorem ownC_apart{w:World}{b1 b2:Nat}{v v2:Value}{l:List Sec}{xs:List UInt8}(h:OwnC w b1 v l)(h2:OwnB w b2 v2 xs):∀ j,v.ownBlock=some j→v2.ownBlock≠some j:=by
 intro j hj e
 rcases h.2 with ⟨rfl,_⟩ | ⟨g,cap,cur,rfl,_,hg,_⟩
 ·cases hj
 rcases h2.2 with ⟨rfl,_⟩ | ⟨g2,cap2,cur2,rfl,_,hg2,_⟩
 ·cases e
 simp only [Value.ownBlock,Option.map_some,Option.some.injEq] at hj e;subst hj;subst e;rw [hg] at hg2;injection hg2 with hg2;injection hg2 with _ h3 _;exact absurd h3 (by decide)
def nbS(s:Sec):ByteArray × List UInt8:=(s.name,s.bs)
def preS(n:ByteArray)(i:Nat):ByteArray:=⟨(n.data.toList.take i).toArray⟩
theorem preS_succ(n:ByteArray)(i:Nat)(h:i<n.data.toList.length):preS n i++⟨[n.data.toList[i]].toArray⟩=preS n (i+1):=by
 apply ByteArray.ext;simp only [preS,ByteArray.data_append,List.append_toArray,List.take_succ_eq_append_getElem h]
theorem preS_all(n:ByteArray):preS n n.size=n:=by
 apply ByteArray.ext;simp only [preS];rw [List.take_of_length_le (by rw [Lib.size_eq];exact Nat.le_refl _)]
end Go.Proofs.YtpkocnpamcchcaaGreatDoor
namespace Go.Zone
theorem Turn.cell{w w':World}{S:List Nat}{p:Addr}{u:Value}(ht:Turn w w' S)(h:w.cell? p=some u)(hn:p.block∉S):w'.cell? p=some u:=by
 have hb:=ht.block p.block (World.block_lt_of_cell? w _ h) hn;unfold World.cell? at h ⊢;rw [hb];exact h
theorem Sl.turn{α:Type}{w w':World}{k c:Nat}{enc:α→List Value}{A:Option Addr}{xs:List α}{S:List Nat}(h:Sl w k enc A c xs)(ht:Turn w w' S)(hs:∀ b off,A=some ⟨b,off,none⟩→b∉S):Sl w' k enc A c xs :=
 ⟨h.cap,h.big,h.len,fun i hi=>by
  obtain ⟨b,off,hA,hc⟩:=h.at_ i hi;exact ⟨b,off,hA,fun j u hu=>ht.cell (hc j u hu) (hs b off hA)⟩⟩
end Go.Zone
namespace Go.Proofs.YtpkocnpamcchcaaGreatDoor
open Go.RowKit Go.Zone Go.Shelf
attribute [local go_sem] zone stepZ fill lookFs goes goesUpon dropFs cell_gro frozen_gro size_gro lt_add drew_gro tape_gro keep_refl
attribute [local go_sem] lt_add2 lt_add3 lt_add4 lt_add5 lt_add6 lt_add7 lt_add8 lt_add9 lt_add10 lt_add11 lt_add12
theorem bkind_any(c:Col)(w:World):Calls Tryz.prog 71 #[c.v] w fun e w'=>e=.returned (.int .u8 (if c.kind=2 then 2 else 1))∧Keep w w':=by
 obtain ⟨k,n⟩:=c;simp only [Col.v];go_enter Tryz.func71,Tryz.ntmps71;go_wp2
 all_goals go_ret
 all_goals exact ⟨by simp_all,(by repeat first|exact kp0|apply kp1|apply kp2|apply kp3|apply kp4)⟩
def mkC(L s0 v r p f R o I Q M:Value):List Value:=[L,s0,v,r,p,f,R,o,I,Q,M]
def SecsO(w:World)(l:List Sec):Prop:=∀ s∈l,OwnB w 0 (.slice s.A s.bs.length s.c) s.bs
theorem SecsO.keep{w w':World}{l:List Sec}(h:SecsO w l)(hk:Keep w w'):SecsO w' l:=fun s hs=>(h s hs).keep hk
theorem SecsO.at_{w:World}{l:List Sec}(h:SecsO w l)(hl:∀ s∈l,s.bs.length≤140737488355328):SecsAt w l:=fun s hs=>by
 obtain ⟨A,c,hv,h1⟩:=(h s hs).sl b8_len (hl s hs);injection hv with hv _ hc;subst hv;subst hc;exact h1
def NoU8(w:World)(i:Nat):Prop:=∀ cs r,w.heap[i]? ≠some (.cells cs 5 r)
theorem SecsO.turn{w w':World}{l:List Sec}{S:List Nat}(h:SecsO w l)(ht:Turn w w' S)(hn:∀ i∈S,i<w.heap.size→NoU8 w i):SecsO w' l:=fun s hs=>by
 have h1:=h s hs;refine Own.turn h1 ht fun i hi e=>?_;have hlt:=(h1.lt i e).2
 rcases h1.2 with ⟨hv,_⟩ | ⟨g,cap,cur,hv,_,hg,_⟩
 ·rw [hv] at e;cases e
 ·rw [hv] at e;simp only [Value.ownBlock,Option.map_some,Option.some.injEq] at e;subst e;exact hn _ hi hlt _ _ hg
theorem Row.noU8{w:World}{g:Nat}{T:TypeId}{vs:List Value}(h:Row w g T vs)(ht:T≠5):NoU8 w g:=fun cs r e=>by
 unfold Row at h;rw [h] at e;simp at e;exact ht e.2.1
theorem OwnC.noU8{w:World}{base:Nat}{o:Value}{l:List Sec}(h:OwnC w base o l):∀ i,i∈o.ownBlock.toList→NoU8 w i:=fun i hi cs r e=>by
 rcases h.2 with ⟨hv,_⟩ | ⟨g,cap,cur,hv,_,hg,_⟩
 ·rw [hv] at hi;simp [Value.ownBlock] at hi
 ·rw [hv] at hi;simp only [Value.ownBlock,Option.map_some,Option.toList_some,List.mem_singleton] at hi;subst hi;rw [hg] at e;injection e with e;injection e with _ e _;exact absurd e (by decide)
theorem mkput_any{L s0 v r p f R o I Q M:Value}(b base:Nat)(S:List Sec)(nm:ByteArray)(A:Option Addr)(c:Nat)(bs:List UInt8)(w:World)(hR:Row w b 77 (mkC L s0 v r p f R o I Q M))(hO:OwnC w base o S)(hb:b<base)(hbase:base≤w.heap.size)(hS:S.length≤100000) :
 Calls Tryz.prog 30 #[.pointer (some ⟨b,0,none⟩),.string nm,.slice A bs.length c] w fun e w'=>e=.returned (.tuple #[])∧∃ o',Row w' b 77 (mkC L s0 v r p f R o' I Q M)∧OwnC w' base o' (S++[⟨nm,A,c,bs⟩])∧Turn w w' (b :: o.ownBlock.toList)∧(o'.ownBlock=o.ownBlock∨∃ g,o'.ownBlock=some g∧w.heap.size≤g):=by
 have HR:=lh hR;have HO:=lh hO;have x7:=hR.cell 7 _ rfl;have hlt:=hR.lt;clear hR hO;go_enter Tryz.func30,Tryz.ntmps30;go_wp2_with (at_builtin;refine hold ?_);refine unhold ?_;have hke:Keep w (w.alloc (.cells #[.string nm,.slice A bs.length c] 68)):=(by repeat first|exact kp0|apply kp1|apply kp2|apply kp3|apply kp4);have HO7:OwnC (w.alloc (.cells #[.string nm,.slice A bs.length c] 68)) base o S:=HO.out.keep hke;refine wpList_app elt_sec sec_len sec_one rfl (.tmp 10) (.tmp 14) rfl (ys:=[⟨nm,A,c,bs⟩]) HO7 rfl rfl (sl_one _ (by omega) (by omega) (fun j u hu=>by
  match j,hu with
  | 0,hu=>cases hu;simp [go_sem]
  | 1,hu=>cases hu;simp [go_sem])) (by simp;omega) (by simp;omega) ?_
 intro v8 w8 hown8 hg8 hd8;obtain ⟨A8,c8,hv8,_⟩:=hown8.sl sec_len (by simp;omega);rw [List.length_append,List.length_singleton] at hv8;subst hv8;have hne:o.ownBlock≠some b:=fun e=>by have:=(HO.out.lt _ e).1;omega
 have hne8:(Value.slice A8 (S.length+1) c8).ownBlock≠some b:=by
  rcases hd8 with e|e
  ·rw [e];exact hne
  ·rw [e];simp;omega
 have HD8:=lh (show (Value.slice A8 (S.length+1) c8).ownBlock=o.ownBlock∨∃ g,(Value.slice A8 (S.length+1) c8).ownBlock=some g∧w.heap.size≤g by
  rcases hd8 with e|e
  ·exact .inl e
  ·exact .inr ⟨_,e,by simp⟩)
 have hr8:Row w8 b 77 (mkC L s0 v r p f R o I Q M):=(hg8.block b (by simp;omega) (fun e=>hne e.symm)).trans (HR.out.keep hke);have HR8:=lh hr8;have HO8:=lh hown8;have HT8:=lh (show Turn w w8 (b :: o.ownBlock.toList) from ⟨hg8.os.trans hke.os,hg8.tape.trans hke.tape,hg8.output.trans hke.output,Nat.le_trans hke.size hg8.size,fun i hi hn=>(hg8.block i (by simp;omega) (fun e=>hn (by rw [← e];simp))).trans (hke.block i hi)⟩);have y7:=hr8.cell 7 _ rfl;have f7:=hr8.soft 7;have hlt8:=hr8.lt;have HNE:=lh hne8;clear x7 hr8 hown8 hg8 hd8 HO7 hke hne hne8;go_wp2;exact bodyPost_end (v:=.tuple #[]) (by simp [results,Tryz.results30,go_sem]) rfl ⟨rfl,_,HR8.out.set 7 _,(HO8.out.turn (Turn.set w8 ⟨b,7,none⟩ _) (fun i hi=>by
  simp only [List.mem_singleton] at hi;subst hi;exact HNE.out)),HT8.out.trans ((Turn.set w8 ⟨b,7,none⟩ _).mono fun i hi=>.inl (by simp only [List.mem_singleton] at hi;subst hi;simp)),HD8.out⟩
end Go.Proofs.YtpkocnpamcchcaaGreatDoor
namespace Go.Zone
theorem Turn.setc{w W:World}{S:List Nat}(h:Turn w W S){a:Addr}(ha:a.block∈S)(u:Value):Turn w (W.setCell a u) S :=
 h.trans ((Turn.set W a u).mono fun i hi=>.inl (by simp only [List.mem_singleton] at hi;subst hi;exact ha))
theorem Turn.drew{w W:World}{S:List Nat}(h:Turn w W S):Turn w W.drew S:=h.trans (Turn.keep (Keep.drew (Keep.refl W)) S)
theorem Turn.drewN{w W:World}{S:List Nat}(h:Turn w W S)(n:Nat):Turn w (W.drewN n) S:=h.trans (Turn.keep (Keep.drewN (Keep.refl W) n) S)
theorem Turn.alloc{w W:World}{S:List Nat}(h:Turn w W S)(o:Obj):Turn w (W.alloc o) S:=h.trans (Turn.keep (Keep.alloc (Keep.refl W) o) S)
theorem Turn.gro{w W:World}{S:List Nat}(h:Turn w W S)(p:_):Turn w (W.gro p) S:=h.trans (Turn.keep (Keep.gro (Keep.refl W) p) S)
theorem Turn.trans2{w1 w2 w3:World}{S S':List Nat}(h:Turn w1 w2 S)(k:Turn w2 w3 S')(hs:∀ i∈S',i∈S∨w1.heap.size≤i):Turn w1 w3 S :=
 ⟨k.os.trans h.os,k.tape.trans h.tape,k.output.trans h.output,Nat.le_trans h.size k.size,fun i hi hn=>(k.block i (Nat.lt_of_lt_of_le hi h.size) (fun hm=>by rcases hs i hm with e|e;exact hn e;omega)).trans (h.block i hi hn)⟩
theorem Turn.keep_{w W W':World}{S:List Nat}(h:Turn w W S)(hk:Keep W W'):Turn w W' S:=h.trans (Turn.keep hk S)
end Go.Zone
namespace Go.Proofs.YtpkocnpamcchcaaGreatDoor
open Go.RowKit Go.Zone Go.Shelf
attribute [local go_sem] zone stepZ fill lookFs goes goesUpon dropFs cell_gro frozen_gro size_gro lt_add drew_gro tape_gro keep_refl
attribute [local go_sem] lt_add2 lt_add3 lt_add4 lt_add5 lt_add6 lt_add7 lt_add8 lt_add9 lt_add10 lt_add11 lt_add12
theorem DictAt.turn{w w':World}{b:Nat}{kind:Int}{A:Option Addr}{c:Nat}{xs:List Val}{S:List Nat}(h:DictAt w b kind A c xs)(ht:Turn w w' S)(hb:b∉S)(hA:∀ b off,A=some ⟨b,off,none⟩→b∉S):DictAt w' b kind A c xs :=
 ⟨ht.cell h.k hb,ht.cell h.l hb,h.sl.turn ht hA⟩
theorem IdxAt.turn{w w':World}{b rows many wd c:Nat}{A:Option Addr}{bs:List UInt8}{S:List Nat}(h:IdxAt w b rows many wd A c bs)(ht:Turn w w' S)(hb:b∉S)(hA:∀ b off,A=some ⟨b,off,none⟩→b∉S):IdxAt w' b rows many wd A c bs :=
 ⟨ht.cell h.r hb,ht.cell h.m hb,ht.cell h.w_ hb,ht.cell h.b_ hb,h.sl.turn ht hA⟩
theorem put_secs{L s0 v r p f R o I Q M:Value}(b base:Nat)(S:List Sec)(nm:ByteArray)(A:Option Addr)(c:Nat)(bs:List UInt8)(w:World)(hR:Row w b 77 (mkC L s0 v r p f R o I Q M))(hO:OwnC w base o S)(hb:b<base)(hbase:base≤w.heap.size)(hl:S.length≤100000)
 (hS:SecsO w S) (hB:OwnB w 0 (.slice A bs.length c) bs) :
 Calls Tryz.prog 30 #[.pointer (some ⟨b,0,none⟩),.string nm,.slice A bs.length c] w fun e w'=>e=.returned (.tuple #[])∧∃ o',Row w' b 77 (mkC L s0 v r p f R o' I Q M)∧OwnC w' base o' (S++[⟨nm,A,c,bs⟩])∧SecsO w' (S++[⟨nm,A,c,bs⟩])∧Turn w w' (b :: o.ownBlock.toList)∧(o'.ownBlock=o.ownBlock∨∃ g,o'.ownBlock=some g∧w.heap.size≤g):=by
 refine (mkput_any b base S nm A c bs w hR hO hb hbase hl).mono ?_;rintro e w' ⟨rfl,o',h1,h2,h3,h4⟩;refine ⟨rfl,o',h1,h2,?_,h3,h4⟩;have hS2:SecsO w (S++[⟨nm,A,c,bs⟩]):=fun s hs=>by
  rw [List.mem_append,List.mem_singleton] at hs
  rcases hs with hs|rfl
  ·exact hS s hs
  ·exact hB
 refine hS2.turn h3 fun i hi _=>?_;rw [List.mem_cons] at hi
 rcases hi with rfl|hi
 ·exact Row.noU8 hR (by decide)
 ·exact OwnC.noU8 hO i hi
end Go.Proofs.YtpkocnpamcchcaaGreatDoor
namespace Go.Proofs.YtpkocnpamcchcaaGreatDoor
open Go.RowKit Go.Zone Go.Shelf
attribute [local go_sem] zone stepZ fill lookFs goes goesUpon dropFs cell_gro frozen_gro size_gro lt_add drew_gro tape_gro keep_refl
attribute [local go_sem] lt_add2 lt_add3 lt_add4 lt_add5 lt_add6 lt_add7 lt_add8 lt_add9 lt_add10 lt_add11 lt_add12
theorem info_i64:(Tryz.prog.info? 3).map (fun i=>(i.zero,i.size,i.bytes))=some (some (.int .i64 0),1,8):=by kernel_rfl
def sDict:ByteArray:=⟨#[100,105,99,116]⟩
def sFwd:ByteArray:=⟨#[102,111,114,119,97,114,100]⟩
theorem find_own{kind:Int}{xs:List Val}{v:Val}(hk:kind≠0)(hv:v∈xs):findV kind (dOwn xs) v=((lower (dOwn xs) v:Int),true):=by
 simp [findV,hk,(own_place hv).1]
theorem DictAt.turn1{w w':World}{b:Nat}{kind:Int}{A:Option Addr}{c:Nat}{xs:List Val}{S:List Nat}(h:DictAt w b kind A c xs)(ht:Turn w w' S)(hb:b∉S)(hA:∀ b off,A=some ⟨b,off,none⟩→0<xs.length→b∉S):DictAt w' b kind A c xs:=by
 rcases xs with _ | ⟨x,r⟩
 ·exact ⟨ht.cell h.k hb,ht.cell h.l hb,Sl.nil_ _ h.sl.big⟩
 ·exact ⟨ht.cell h.k hb,ht.cell h.l hb,h.sl.turn ht fun b off e=>hA b off e (by simp)⟩
end Go.Proofs.YtpkocnpamcchcaaGreatDoor
namespace Go.Sym
section
variable {α:Type} (lt:α→α→Bool)
structure Ord:Prop where
 asym:∀ a b,lt a b=true→lt b a=false
 trans:∀ a b c,lt b a=false→lt c b=false→lt c a=false
def eqv(a b:α):Bool:=!lt a b && !lt b a
def Srt(l:List α):Prop:=l.Pairwise fun a b=>lt b a=false
def Cls(l l':List α):Prop:=∀ x,l.filter (eqv lt x)=l'.filter (eqv lt x)
end
section
variable {α:Type} {lt:α→α→Bool}
theorem Ord.irr(h:Ord lt)(a:α):lt a a=false:=by
 cases e:lt a a
 ·rfl
 ·have:=h.asym a a e;rw [e] at this;exact this
theorem Ord.lt_le(h:Ord lt){a b c:α}(h1:lt a b=true)(h2:lt c b=false):lt a c=true:=by
 cases e:lt a c
 ·have:=h.trans b c a h2 e;rw [h1] at this
  cases this
 ·rfl
theorem Ord.le_lt(h:Ord lt){a b c:α}(h1:lt b a=false)(h2:lt b c=true):lt a c=true:=by
 cases e:lt a c
 ·have:=h.trans c a b e h1;rw [h2] at this
  cases this
 ·rfl
theorem eqv_iff{a b:α}:eqv lt a b=true↔lt a b=false∧lt b a=false:=by simp [eqv]
theorem Cls.refl(l:List α):Cls lt l l:=fun _=>rfl
theorem Cls.symm{l l':List α}(h:Cls lt l l'):Cls lt l' l:=fun x=>(h x).symm
theorem Cls.trans{l l' l'':List α}(h:Cls lt l l')(k:Cls lt l' l''):Cls lt l l'':=fun x=>(h x).trans (k x)
theorem Cls.app{a a' b b':List α}(h:Cls lt a a')(k:Cls lt b b'):Cls lt (a++b) (a'++b'):=fun x=>by rw [List.filter_append,List.filter_append,h x,k x]
theorem swap_cls(ho:Ord lt){X Y:List α}(h:∀ x∈X,∀ y∈Y,lt y x=true):Cls lt (X++Y) (Y++X):=fun z=>by
 rw [List.filter_append,List.filter_append]
 rcases hX:X.filter (eqv lt z) with _ | ⟨x,rx⟩
 ·simp
 rcases hY:Y.filter (eqv lt z) with _ | ⟨y,ry⟩
 ·simp
 have mx:x∈X.filter (eqv lt z):=by rw [hX];simp
 have my:y∈Y.filter (eqv lt z):=by rw [hY];simp
 rw [List.mem_filter,eqv_iff] at mx my;have h1:=h x mx.1 y my.1;have h2:=ho.lt_le h1 (show lt z x=false from mx.2.1);rw [my.2.2] at h2
 cases h2
theorem Cls.mem{l l':List α}(ho:Ord lt)(h:Cls lt l l')(x:α)(hx:x∈l):x∈l':=by
 have h1:x∈l.filter (eqv lt x):=by rw [List.mem_filter,eqv_iff];exact ⟨hx,ho.irr x,ho.irr x⟩
 rw [h x] at h1;exact (List.mem_filter.1 h1).1
theorem Cls.nil{l:List α}(ho:Ord lt)(h:Cls lt [] l):l=[]:=by
 cases l with
 | nil=>rfl
 | cons a r=>exact absurd (h.symm.mem ho a (by simp)) (by simp)
theorem srt_uniq(ho:Ord lt):∀ (l l':List α),Srt lt l→Srt lt l'→Cls lt l l'→l=l'
 | [],l',_,_,h=>(h.nil ho).symm
 | a :: r,[],_,_,h=>absurd (h.mem ho a (by simp)) (by simp)
 | a :: r,b :: r',hs,hs',h=>by
   have ha:∀ x∈a :: r,lt x a=false:=fun x hx=>by
     rcases List.mem_cons.1 hx with rfl|hx
     ·exact ho.irr _
     ·exact (List.pairwise_cons.1 hs).1 x hx
   have hb:∀ x∈b :: r',lt x b=false:=fun x hx=>by
     rcases List.mem_cons.1 hx with rfl|hx
     ·exact ho.irr _
     ·exact (List.pairwise_cons.1 hs').1 x hx
   have e1:lt a b=false:=hb a (h.mem ho a (by simp));have e2:lt b a=false:=ha b (h.symm.mem ho b (by simp));have hc:=h a;have k1:eqv lt a a=true:=eqv_iff.2 ⟨ho.irr a,ho.irr a⟩;have k2:eqv lt a b=true:=eqv_iff.2 ⟨e1,e2⟩;rw [List.filter_cons_of_pos k1,List.filter_cons_of_pos k2] at hc;obtain ⟨rfl,_⟩:=List.cons.inj hc
   congr 1
   refine srt_uniq ho r r' (List.pairwise_cons.1 hs).2 (List.pairwise_cons.1 hs').2 fun x=>?_;have hx:=h x;rw [List.filter_cons,List.filter_cons] at hx
   split at hx
   ·exact (List.cons.inj hx).2
   ·exact hx
theorem Srt.take{l:List α}(h:Srt lt l)(n:Nat):Srt lt (l.take n):=List.Pairwise.sublist (List.take_sublist n l) h
theorem Srt.drop{l:List α}(h:Srt lt l)(n:Nat):Srt lt (l.drop n):=List.Pairwise.sublist (List.drop_sublist n l) h
theorem srt_app{A B:List α}:Srt lt (A++B)↔Srt lt A∧Srt lt B∧∀ a∈A,∀ b∈B,lt b a=false:=List.pairwise_append
def Stb(lt:α→α→Bool)(l l':List α):Prop:=Srt lt l'∧Cls lt l l'
theorem Stb.mem{l l':List α}(ho:Ord lt)(h:Stb lt l l')(x:α):x∈l'↔x∈l:=⟨h.2.symm.mem ho x,h.2.mem ho x⟩
theorem stb_halves(ho:Ord lt){L1 L2 R1 R2 P Q:List α}(hs1:Srt lt (L1++L2))(hs2:Srt lt (R1++R2))(h12:∀ x∈L2,∀ y∈R1,lt y x=true)(h21:∀ x∈L1,∀ y∈R2,lt y x=false)
 (hP:Stb lt (L1++R1) P) (hQ:Stb lt (L2++R2) Q):Stb lt (L1++L2++(R1++R2)) (P++Q):=by
 obtain ⟨sL1,sL2,cL⟩:=srt_app.1 hs1;obtain ⟨sR1,sR2,cR⟩:=srt_app.1 hs2;constructor
 ·refine srt_app.2 ⟨hP.1,hQ.1,fun a ha b hb=>?_⟩;have ha':=(hP.mem ho a).1 ha;have hb':=(hQ.mem ho b).1 hb
  rcases List.mem_append.1 ha' with ha|ha<;>rcases List.mem_append.1 hb' with hb|hb
  ·exact cL a ha b hb
  ·exact h21 a ha b hb
  ·exact ho.asym _ _ (h12 b hb a ha)
  ·exact cR a ha b hb
 ·have h1:Cls lt (L2++R1) (R1++L2):=swap_cls ho h12;have h2:Cls lt (L1++L2++(R1++R2)) (L1++R1++(L2++R2)):=by
   have:=((Cls.refl L1).app h1).app (Cls.refl (lt:=lt) R2)
   simpa [List.append_assoc] using this
  exact h2.trans (hP.2.app hQ.2)
end
section
variable {α:Type}
def seg(d:List α)(i j:Nat):List α:=(d.drop i).take (j-i)
theorem seg_len(d:List α)(i j:Nat)(h:i≤j)(hj:j≤d.length):(seg d i j).length=j-i:=by simp [seg];omega
theorem seg_nil(d:List α)(i:Nat):seg d i i=[]:=by simp [seg]
theorem seg_app(d:List α)(i j k:Nat)(h1:i≤j)(h2:j≤k):seg d i j++seg d j k=seg d i k:=by
 unfold seg;have e:d.drop j=(d.drop i).drop (j-i):=by rw [List.drop_drop];congr 1;omega
 have e2:k-i=(j-i)+(k-j):=by omega
 rw [e,e2,List.take_add]
theorem seg_get(d:List α)(i j:Nat)(hj:j≤d.length)(k:Nat)(h:k<(seg d i j).length):(seg d i j)[k]=d[i+k]'(by simp [seg] at h;omega):=by
 simp [seg]
theorem seg_mem{d:List α}{i j:Nat}(hj:j≤d.length){x:α}(h:x∈seg d i j):∃ k,i≤k∧k<j∧∃ hk:k<d.length,d[k]=x:=by
 obtain ⟨k,hk,rfl⟩:=List.getElem_of_mem h;have hl:k<j-i:=by simp [seg] at hk;omega
 exact ⟨i+k,by omega,by omega,by omega,(seg_get d i j hj k hk).symm⟩
variable {lt:α→α→Bool}
theorem srt_seg{d:List α}{i j:Nat}(hj:j≤d.length)(h:Srt lt (seg d i j))(p q:Nat)(h1:i≤p)(h2:p<q)(h3:q<j):lt (d[q]'(by omega)) (d[p]'(by omega))=false:=by
 have hl:=seg_len d i j (by omega) hj;have:=List.pairwise_iff_getElem.1 h (p-i) (q-i) (by omega) (by omega) (by omega);rw [seg_get d i j hj,seg_get d i j hj] at this
 simpa [show i+(p-i)=p by omega,show i+(q-i)=q by omega] using this
structure CutAt(lt:α→α→Bool)(d:List α)(a m b s:Nat):Prop where
 lo:(if (a+b)/2<m then (a+b)/2+m-b else a)≤s
 hi:s≤(if (a+b)/2<m then (a+b)/2 else m)
 above:s<(if (a+b)/2<m then (a+b)/2 else m)→∃ (h1:(a+b)/2+m-1-s<d.length) (h2:s<d.length),lt d[(a+b)/2+m-1-s] d[s]=true
 below:(if (a+b)/2<m then (a+b)/2+m-b else a)<s→∃ (h1:(a+b)/2+m-s<d.length) (h2:s-1<d.length),lt d[(a+b)/2+m-s] d[s-1]=false
theorem cut_parts(ho:Ord lt){d:List α}{a m b s:Nat}(ham:a<m)(hmb:m<b)(hb:b≤d.length)(hL:Srt lt (seg d a m))(hR:Srt lt (seg d m b))(hc:CutAt lt d a m b s) :
 a≤s∧s≤m∧m≤(a+b)/2+m-s∧(a+b)/2+m-s≤b∧(∀ x∈seg d s m,∀ y∈seg d m ((a+b)/2+m-s),lt y x=true)∧(∀ x∈seg d a s,∀ y∈seg d ((a+b)/2+m-s) b,lt y x=false):=by
 obtain ⟨h1,h2,h3,h4⟩:=hc;have e1:a≤s:=by split at h1<;>omega
 have e2:s≤m:=by split at h2<;>omega
 have e3:m≤(a+b)/2+m-s:=by split at h2<;>omega
 have e4:(a+b)/2+m-s≤b:=by split at h1<;>omega
 refine ⟨e1,e2,e3,e4,fun x hx y hy=>?_,fun x hx y hy=>?_⟩
 ·obtain ⟨i,i1,i2,i3,rfl⟩:=seg_mem (by omega) hx;obtain ⟨j,j1,j2,j3,rfl⟩:=seg_mem (by omega) hy;have hs:s<(if (a+b)/2<m then (a+b)/2 else m):=by split<;>split at h2<;>omega
  obtain ⟨k1,k2,hk⟩:=h3 hs;have a1:lt (d[i]) (d[s])=false:=by
   rcases Nat.eq_or_lt_of_le i1 with e|e
   ·subst e;exact ho.irr _
   ·exact srt_seg (by omega) hL s i e1 e i2
  have a2:lt (d[(a+b)/2+m-1-s]) (d[j])=false:=by
   rcases Nat.eq_or_lt_of_le (show j≤(a+b)/2+m-1-s by omega) with e|e
   ·subst e;exact ho.irr _
   ·exact srt_seg hb hR j ((a+b)/2+m-1-s) j1 e (by omega)
  exact ho.lt_le (ho.le_lt a2 hk) a1
 ·obtain ⟨i,i1,i2,i3,rfl⟩:=seg_mem (by omega) hx;obtain ⟨j,j1,j2,j3,rfl⟩:=seg_mem hb hy;have hs:(if (a+b)/2<m then (a+b)/2+m-b else a)<s:=by split<;>split at h1<;>omega
  obtain ⟨k1,k2,hk⟩:=h4 hs;have a1:lt (d[s-1]) (d[i])=false:=by
   rcases Nat.eq_or_lt_of_le (show i≤s-1 by omega) with e|e
   ·subst e;exact ho.irr _
   ·exact srt_seg (by omega) hL i (s-1) i1 e (by omega)
  have a2:lt (d[j]) (d[(a+b)/2+m-s])=false:=by
   rcases Nat.eq_or_lt_of_le j1 with e|e
   ·subst e;exact ho.irr _
   ·exact srt_seg hb hR ((a+b)/2+m-s) j e3 e j2
  exact ho.trans _ _ _ (ho.trans _ _ _ a1 hk) a2
end
end Go.Sym
