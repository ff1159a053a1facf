/- Parts of the proof. -/
import Derived.BigRegion
import Derived.Test.YtpkocnpamcchcaaGreatDoorK13
set_option maxRecDepth 100000
set_option maxHeartbeats 4000000
set_option linter.unusedSimpArgs false
set_option linter.unusedVariables false
set_option linter.unnecessarySimpa false
namespace Go.Proofs.YtpkocnpamcchcaaGreatDoor
open Go.RowKit Go.Zone Go.Shelf
attribute [local go_sem] zone stepZ fill lookFs goes goesUpon dropFs cell_gro frozen_gro size_gro lt_add drew_gro tape_gro keep_refl
attribute [local go_sem] lt_add2 lt_add3 lt_add4 lt_add5 lt_add6 lt_add7 lt_add8 lt_add9 lt_add10 lt_add11 lt_add12
theorem letter_any(b:Nat)(w:World):Calls Tryz.prog 43 #[.int .u8 (b:Int)] w fun e w'=>e=.returned (.bool (okS b))∧Keep w w':=by
 have HO:=lh (okS_spec b);go_enter Tryz.func43,Tryz.ntmps43;go_wp2
 all_goals go_ret
 all_goals refine ⟨ret_bool ?_,(by repeat first|exact kp0|apply kp1|apply kp2|apply kp3|apply kp4)⟩
 all_goals
  rw [Bool.eq_iff_iff,HO.out];simp only [Bool.and_eq_true,Bool.or_eq_true,decide_eq_true_eq,beq_iff_eq,true_iff,iff_true,Bool.false_eq_true,false_iff,iff_false];omega
theorem rsecf_any(A:Option Addr)(c:Nat)(l:List Sec)(n:ByteArray)(w:World)(h:Sl w 2 Sec.cells A c l) :
 Calls Tryz.prog 44 #[.slice A l.length c,.string n] w fun e w'=>e=.returned (.int .i64 (idxP (isSec n) l 0))∧Keep w w':=by
 have hl:=sl_len h;go_enter Tryz.func44,Tryz.ntmps44;go_wp2;go_loop [5] (fun i=>∃ k:Nat,k≤l.length∧i=.int .i64 k∧Hid (∀ j,(h:j<l.length)→j<k→isSec n l[j]=false)) (fun i=>l.length-(intOf i).toNat)
 case atStart=>exact ⟨0,Nat.zero_le _,rfl,fun j _ hj=>absurd hj (Nat.not_lt_zero _)⟩
 case round =>
  obtain ⟨k,hk,rfl,HR⟩:=hrel
  by_cases hlt:k<l.length
  ·obtain ⟨b,off,rfl,hb,h0,h1⟩:=sl_sec h k hlt;clear h h1
   cases hq:isSec n l[k]
   ·have hq2:=hq;unfold isSec at hq2;have HQ:=lh hq;clear hq;go_wp2;go_round
    case rel=>exact ⟨k+1,by omega,by go_num,fun j hj hjk=>by
     by_cases e:j=k
     ·subst e;exact HQ.out
     ·exact HR.out j hj (by omega)⟩
    case measure=>simp [intOf];omega
   ·have hq2:=hq;unfold isSec at hq2;have HQ:=lh hq;clear hq;go_wp2;go_ret;exact ⟨ret_int (by rw [idxP_at (isSec n) l 0 k HR.out,List.drop_eq_getElem_cons hlt];simp [idxP,HQ.out]),(by repeat first|exact kp0|apply kp1|apply kp2|apply kp3|apply kp4)⟩
  ·go_wp2;go_ret;exact ⟨ret_int (by rw [idxP_at (isSec n) l 0 l.length fun j hj _=>HR.out j hj (by omega)];simp [idxP]),(by repeat first|exact kp0|apply kp1|apply kp2|apply kp3|apply kp4)⟩
def posB(S:List Sec)(k:Nat):Nat:=6+((S.take k).flatMap secB).length
theorem image_drop(S:List Sec)(k:Nat):(imageB S).drop (posB S k)=(S.drop k).flatMap secB:=by
 have h:imageB S=([73,83,71,76]++le S.length 2++(S.take k).flatMap secB)++(S.drop k).flatMap secB:=by
  conv=>lhs;unfold imageB;rw [← List.take_append_drop k S,List.flatMap_append]
  simp
 rw [h,List.drop_left' (by simp [posB,le_len];omega)]
theorem posB_succ(S:List Sec)(k:Nat)(h:k<S.length):posB S (k+1)=posB S k+(S[k].name.size+S[k].bs.length+9):=by
 have hs:S[k].name.data.toList.length=S[k].name.size:=by rw [Lib.size_eq]
 simp only [posB];rw [List.take_succ_eq_append_getElem h,List.flatMap_append,List.length_append];simp only [List.flatMap_cons,List.flatMap_nil,List.append_nil,secB,List.length_append,frameB_len,List.length_singleton];omega
theorem posB_end(S:List Sec):posB S S.length=(imageB S).length:=by
 simp [posB,imageB,le_len];omega
theorem at_sec(S:List Sec)(k:Nat)(h:k<S.length):∃ rest,(imageB S).drop (posB S k)=[UInt8.ofNat S[k].name.size]++(S[k].name.data.toList++(frameB S[k].bs++rest)):=by
 refine ⟨(S.drop (k+1)).flatMap secB,?_⟩;rw [image_drop,List.drop_eq_getElem_cons h,List.flatMap_cons];simp [secB]
theorem info_sec:(Tryz.prog.info? 68).map (fun i=>(i.zero,i.size,i.bytes))=some (some (.agg #[.string ⟨#[]⟩,.slice none 0 0]),2,40):=by kernel_rfl
theorem elt_sec:Elt Tryz.prog 38 68 2 40:=by
 obtain ⟨i,hi,h1,h2,h3⟩:=info_parts info_sec;exact ⟨i,_,Tryz.underlying38,hi,h1,h2,h3,rfl,by decide,by decide⟩
theorem sec_len(x:Sec):x.cells.length=2:=rfl
theorem sec_one(x:Sec):∀ u∈x.cells,u.oneCell'=true:=by simp [Sec.cells,Value.oneCell']
abbrev OwnC(w:World)(base:Nat)(v:Value)(l:List Sec):Prop:=Own w base 68 2 Sec.cells v l
theorem ownC_apart{w:World}{b1 b2:Nat}{v v2:Value}{l:List Sec}{xs:List UInt8}(h:OwnC w b1 v l)(h2:OwnB w b2 v2 xs):∀ j,v.ownBlock=some j→v2.ownBlock≠some j:=by
 intro j hj e
 rcases h.2 with ⟨rfl,_⟩ | ⟨g,cap,cur,rfl,_,hg,_⟩
 ·cases hj
 rcases h2.2 with ⟨rfl,_⟩ | ⟨g2,cap2,cur2,rfl,_,hg2,_⟩
 ·cases e
 simp only [Value.ownBlock,Option.map_some,Option.some.injEq] at hj e;subst hj;subst e;rw [hg] at hg2;injection hg2 with hg2;injection hg2 with _ h3 _;exact absurd h3 (by decide)
def nbS(s:Sec):ByteArray × List UInt8:=(s.name,s.bs)
def preS(n:ByteArray)(i:Nat):ByteArray:=⟨(n.data.toList.take i).toArray⟩
theorem preS_succ(n:ByteArray)(i:Nat)(h:i<n.data.toList.length):preS n i++⟨[n.data.toList[i]].toArray⟩=preS n (i+1):=by
 apply ByteArray.ext;simp only [preS,ByteArray.data_append,List.append_toArray,List.take_succ_eq_append_getElem h]
theorem preS_all(n:ByteArray):preS n n.size=n:=by
 apply ByteArray.ext;simp only [preS];rw [List.take_of_length_le (by rw [Lib.size_eq];exact Nat.le_refl _)]
end Go.Proofs.YtpkocnpamcchcaaGreatDoor
namespace Go.Zone
theorem Turn.cell{w w':World}{S:List Nat}{p:Addr}{u:Value}(ht:Turn w w' S)(h:w.cell? p=some u)(hn:p.block∉S):w'.cell? p=some u:=by
 have hb:=ht.block p.block (World.block_lt_of_cell? w _ h) hn;unfold World.cell? at h ⊢;rw [hb];exact h
theorem Sl.turn{α:Type}{w w':World}{k c:Nat}{enc:α→List Value}{A:Option Addr}{xs:List α}{S:List Nat}(h:Sl w k enc A c xs)(ht:Turn w w' S)(hs:∀ b off,A=some ⟨b,off,none⟩→b∉S):Sl w' k enc A c xs :=
 ⟨h.cap,h.big,h.len,fun i hi=>by
  obtain ⟨b,off,hA,hc⟩:=h.at_ i hi;exact ⟨b,off,hA,fun j u hu=>ht.cell (hc j u hu) (hs b off hA)⟩⟩
end Go.Zone
namespace Go.Proofs.YtpkocnpamcchcaaGreatDoor
open Go.RowKit Go.Zone Go.Shelf
attribute [local go_sem] zone stepZ fill lookFs goes goesUpon dropFs cell_gro frozen_gro size_gro lt_add drew_gro tape_gro keep_refl
attribute [local go_sem] lt_add2 lt_add3 lt_add4 lt_add5 lt_add6 lt_add7 lt_add8 lt_add9 lt_add10 lt_add11 lt_add12
theorem bkind_any(c:Col)(w:World):Calls Tryz.prog 71 #[c.v] w fun e w'=>e=.returned (.int .u8 (if c.kind=2 then 2 else 1))∧Keep w w':=by
 obtain ⟨k,n⟩:=c;simp only [Col.v];go_enter Tryz.func71,Tryz.ntmps71;go_wp2
 all_goals go_ret
 all_goals exact ⟨by simp_all,(by repeat first|exact kp0|apply kp1|apply kp2|apply kp3|apply kp4)⟩
def mkC(L s0 v r p f R o I Q M:Value):List Value:=[L,s0,v,r,p,f,R,o,I,Q,M]
def SecsO(w:World)(l:List Sec):Prop:=∀ s∈l,OwnB w 0 (.slice s.A s.bs.length s.c) s.bs
theorem SecsO.keep{w w':World}{l:List Sec}(h:SecsO w l)(hk:Keep w w'):SecsO w' l:=fun s hs=>(h s hs).keep hk
theorem SecsO.at_{w:World}{l:List Sec}(h:SecsO w l)(hl:∀ s∈l,s.bs.length≤140737488355328):SecsAt w l:=fun s hs=>by
 obtain ⟨A,c,hv,h1⟩:=(h s hs).sl b8_len (hl s hs);injection hv with hv _ hc;subst hv;subst hc;exact h1
def NoU8(w:World)(i:Nat):Prop:=∀ cs r,w.heap[i]? ≠some (.cells cs 5 r)
theorem SecsO.turn{w w':World}{l:List Sec}{S:List Nat}(h:SecsO w l)(ht:Turn w w' S)(hn:∀ i∈S,i<w.heap.size→NoU8 w i):SecsO w' l:=fun s hs=>by
 have h1:=h s hs;refine Own.turn h1 ht fun i hi e=>?_;have hlt:=(h1.lt i e).2
 rcases h1.2 with ⟨hv,_⟩ | ⟨g,cap,cur,hv,_,hg,_⟩
 ·rw [hv] at e;cases e
 ·rw [hv] at e;simp only [Value.ownBlock,Option.map_some,Option.some.injEq] at e;subst e;exact hn _ hi hlt _ _ hg
theorem Row.noU8{w:World}{g:Nat}{T:TypeId}{vs:List Value}(h:Row w g T vs)(ht:T≠5):NoU8 w g:=fun cs r e=>by
 unfold Row at h;rw [h] at e;simp at e;exact ht e.2.1
theorem OwnC.noU8{w:World}{base:Nat}{o:Value}{l:List Sec}(h:OwnC w base o l):∀ i,i∈o.ownBlock.toList→NoU8 w i:=fun i hi cs r e=>by
 rcases h.2 with ⟨hv,_⟩ | ⟨g,cap,cur,hv,_,hg,_⟩
 ·rw [hv] at hi;simp [Value.ownBlock] at hi
 ·rw [hv] at hi;simp only [Value.ownBlock,Option.map_some,Option.toList_some,List.mem_singleton] at hi;subst hi;rw [hg] at e;injection e with e;injection e with _ e _;exact absurd e (by decide)
theorem mkput_any{L s0 v r p f R o I Q M:Value}(b base:Nat)(S:List Sec)(nm:ByteArray)(A:Option Addr)(c:Nat)(bs:List UInt8)(w:World)(hR:Row w b 77 (mkC L s0 v r p f R o I Q M))(hO:OwnC w base o S)(hb:b<base)(hbase:base≤w.heap.size)(hS:S.length≤100000) :
 Calls Tryz.prog 30 #[.pointer (some ⟨b,0,none⟩),.string nm,.slice A bs.length c] w fun e w'=>e=.returned (.tuple #[])∧∃ o',Row w' b 77 (mkC L s0 v r p f R o' I Q M)∧OwnC w' base o' (S++[⟨nm,A,c,bs⟩])∧Turn w w' (b :: o.ownBlock.toList)∧(o'.ownBlock=o.ownBlock∨∃ g,o'.ownBlock=some g∧w.heap.size≤g):=by
 have HR:=lh hR;have HO:=lh hO;have x7:=hR.cell 7 _ rfl;have hlt:=hR.lt;clear hR hO;go_enter Tryz.func30,Tryz.ntmps30;go_wp2_with (at_builtin;refine hold ?_);refine unhold ?_;have hke:Keep w (w.alloc (.cells #[.string nm,.slice A bs.length c] 68)):=(by repeat first|exact kp0|apply kp1|apply kp2|apply kp3|apply kp4);have HO7:OwnC (w.alloc (.cells #[.string nm,.slice A bs.length c] 68)) base o S:=HO.out.keep hke;refine wpList_app elt_sec sec_len sec_one rfl (.tmp 10) (.tmp 14) rfl (ys:=[⟨nm,A,c,bs⟩]) HO7 rfl rfl (sl_one _ (by omega) (by omega) (fun j u hu=>by
  match j,hu with
  | 0,hu=>cases hu;simp [go_sem]
  | 1,hu=>cases hu;simp [go_sem])) (by simp;omega) (by simp;omega) ?_
 intro v8 w8 hown8 hg8 hd8;obtain ⟨A8,c8,hv8,_⟩:=hown8.sl sec_len (by simp;omega);rw [List.length_append,List.length_singleton] at hv8;subst hv8;have hne:o.ownBlock≠some b:=fun e=>by have:=(HO.out.lt _ e).1;omega
 have hne8:(Value.slice A8 (S.length+1) c8).ownBlock≠some b:=by
  rcases hd8 with e|e
  ·rw [e];exact hne
  ·rw [e];simp;omega
 have HD8:=lh (show (Value.slice A8 (S.length+1) c8).ownBlock=o.ownBlock∨∃ g,(Value.slice A8 (S.length+1) c8).ownBlock=some g∧w.heap.size≤g by
  rcases hd8 with e|e
  ·exact .inl e
  ·exact .inr ⟨_,e,by simp⟩)
 have hr8:Row w8 b 77 (mkC L s0 v r p f R o I Q M):=(hg8.block b (by simp;omega) (fun e=>hne e.symm)).trans (HR.out.keep hke);have HR8:=lh hr8;have HO8:=lh hown8;have HT8:=lh (show Turn w w8 (b :: o.ownBlock.toList) from ⟨hg8.os.trans hke.os,hg8.tape.trans hke.tape,hg8.output.trans hke.output,Nat.le_trans hke.size hg8.size,fun i hi hn=>(hg8.block i (by simp;omega) (fun e=>hn (by rw [← e];simp))).trans (hke.block i hi)⟩);have y7:=hr8.cell 7 _ rfl;have f7:=hr8.soft 7;have hlt8:=hr8.lt;have HNE:=lh hne8;clear x7 hr8 hown8 hg8 hd8 HO7 hke hne hne8;go_wp2;exact bodyPost_end (v:=.tuple #[]) (by simp [results,Tryz.results30,go_sem]) rfl ⟨rfl,_,HR8.out.set 7 _,(HO8.out.turn (Turn.set w8 ⟨b,7,none⟩ _) (fun i hi=>by
  simp only [List.mem_singleton] at hi;subst hi;exact HNE.out)),HT8.out.trans ((Turn.set w8 ⟨b,7,none⟩ _).mono fun i hi=>.inl (by simp only [List.mem_singleton] at hi;subst hi;simp)),HD8.out⟩
end Go.Proofs.YtpkocnpamcchcaaGreatDoor
namespace Go.Proofs.YtpkocnpamcchcaaGreatDoor
open Go.RowKit Go.Zone Go.Shelf
attribute [local go_sem] zone stepZ fill lookFs goes goesUpon dropFs cell_gro frozen_gro size_gro lt_add drew_gro tape_gro keep_refl
attribute [local go_sem] lt_add2 lt_add3 lt_add4 lt_add5 lt_add6 lt_add7 lt_add8 lt_add9 lt_add10 lt_add11 lt_add12
theorem Turn.set2(w:World)(g i j:Nat)(u v:Value):Turn w ((w.setCell ⟨g,i,none⟩ u).setCell ⟨g,j,none⟩ v) [g]:=(Turn.set w ⟨g,i,none⟩ u).trans (Turn.set _ ⟨g,j,none⟩ v)
theorem swapr_any(g c base a b n N:Nat)(xs:List Rw)(hN:xs.length=N)(cv:Value)(w:World)(h:OwnR w base (.slice (some ⟨g,0,none⟩) N c) xs)(hab:a+n≤b)(hb:b+n≤N)(hl:N≤1000000000) :
 Calls Tryz.prog 223 #[.slice (some ⟨g,0,none⟩) N c,.int .i64 a,.int .i64 b,.int .i64 n,cv] w fun e w'=>e=.returned (.tuple #[])∧OwnR w' base (.slice (some ⟨g,0,none⟩) N c) (Sym.swr xs a b n)∧Turn w w' [g]:=by
 have H:=lh h;clear h;go_enter Tryz.func223,Tryz.ntmps223;go_wp2;go_loopw [10] (fun i wr=>∃ k:Nat,k≤n∧i=.int .i64 k∧Hid (OwnR wr base (.slice (some ⟨g,0,none⟩) N c) (Sym.swr xs a b k))∧Hid (Turn w wr [g])) (fun i _=>n-(intOf i).toNat)
 case atStart=>exact ⟨0,Nat.zero_le _,rfl,H.out,Turn.refl _ _⟩
 case round =>
  clear H;obtain ⟨k,hk,rfl,HO,HT⟩:=hrel
  by_cases hlt:k<n
  ·have hlen:=(Sym.swr_len xs a b k).trans hN;obtain ⟨ys,hys⟩:∃ ys,Sym.swr xs a b k=ys:=⟨_,rfl⟩;have hsw:Sym.swr xs a b (k+1)=Sym.swp ys (a+k) (b+k):=by rw [Sym.swr,hys]
   rw [hys] at HO hlen;have hia:a+k<ys.length:=by omega
   have hib:b+k<ys.length:=by omega
   rw [Sym.swp_at hia hib] at hsw;obtain ⟨a0,a1,a2,a3⟩:=HO.out.cell1 rw_f hlen.symm (a+k) hia;obtain ⟨b0,b1,b2,b3⟩:=HO.out.cell1 rw_f hlen.symm (b+k) hib;have ho2:=HO.out.set1 rw_f hlen.symm (a+k) ys[b+k] rfl;have ho3:=ho2.set1 rw_f (by rw [List.length_set];exact hlen.symm) (b+k) ys[a+k] rfl;rw [← hsw] at ho3;have HO3:=lh ho3;have hne:a+k≠b+k:=by omega
   have e1:IntKind.i64.wrap ((a:Int)+(k:Int))=((a+k:Nat):Int):=by rw [IntWalk.i64_in _ ⟨by omega,by omega⟩];omega
   have e2:IntKind.i64.wrap ((b:Int)+(k:Int))=((b+k:Nat):Int):=by rw [IntWalk.i64_in _ ⟨by omega,by omega⟩];omega
   generalize ys[a+k]=x at a0 ho2 ho3 HO3;generalize ys[b+k]=y at b0 ho2 ho3 HO3;clear ho2 ho3 hsw hys;have HG:=lh (Turn.set2 wr g (a+k) (b+k) (.slice y.A y.vs.length y.c) (.slice x.A x.vs.length x.c));go_wp2;go_region;generalize hW:(wr.setCell ⟨g,a+k,none⟩ (.slice y.A y.vs.length y.c)).setCell ⟨g,b+k,none⟩ (.slice x.A x.vs.length x.c)=w3 at HO3 HG ⊢;clear hW;go_wp2;go_roundw
   case rel=>exact ⟨k+1,by omega,by go_num,HO3.out.keep (by repeat first|exact kp0|apply kp1|apply kp2|apply kp3|apply kp4),HT.out.trans (HG.out.trans (Turn.keep (by repeat first|exact kp0|apply kp1|apply kp2|apply kp3|apply kp4) _))⟩
   case measure=>simp [intOf];omega
  ·have hkn:k=n:=by omega
   subst hkn;go_wp2;go_end0;exact ⟨rfl,HO.out,HT.out⟩
theorem rot_any(g c base a m b N:Nat)(xs:List Rw)(hN:xs.length=N)(cv:Value)(w:World)(h:OwnR w base (.slice (some ⟨g,0,none⟩) N c) xs)(ham:a<m)(hmb:m<b)(hb:b≤N)(hl:N≤1000000000) :
 Calls Tryz.prog 187 #[.slice (some ⟨g,0,none⟩) N c,.int .i64 a,.int .i64 m,.int .i64 b,cv] w fun e w'=>e=.returned (.tuple #[])∧OwnR w' base (.slice (some ⟨g,0,none⟩) N c) (Sym.rotL xs a m b)∧Turn w w' [g]:=by
 have H:=lh h;have e1:IntKind.i64.wrap ((m:Int)-(a:Int))=((m-a:Nat):Int):=by rw [IntWalk.i64_in _ ⟨by omega,by omega⟩];omega
 have e2:IntKind.i64.wrap ((b:Int)-(m:Int))=((b-m:Nat):Int):=by rw [IntWalk.i64_in _ ⟨by omega,by omega⟩];omega
 have HP:=lh (Sym.parts xs a m b (by omega) (by omega));have hla:(xs.take a).length=a:=by simp;omega
 have hlx:(Sym.seg xs a m).length=m-a:=Sym.seg_len xs a m (by omega) (by omega);have hly:(Sym.seg xs m b).length=b-m:=Sym.seg_len xs m b (by omega) (by omega);have HLA:=lh (And.intro hla (And.intro hlx hly));clear h hla hlx hly;go_enter Tryz.func187,Tryz.ntmps187;go_wp2;go_loopw [10,11] (fun vi vj wr=>∃ (i j:Nat) (P X Y Q:List Rw),vi=.int .i64 i∧vj=.int .i64 j∧1≤i∧1≤j∧Hid (X.length=i)∧Hid (Y.length=j)∧Hid (P.length+i=m)∧Hid ((P++(X++(Y++Q))).length=N)∧Hid (P++(Y++(X++Q))=Sym.rotL xs a m b)∧Hid (OwnR wr base (.slice (some ⟨g,0,none⟩) N c) (P++(X++(Y++Q))))∧Hid (Turn w wr [g])) (fun vi vj _=>(intOf vi).toNat+(intOf vj).toNat)
 case atStart=>exact ⟨m-a,b-m,xs.take a,Sym.seg xs a m,Sym.seg xs m b,xs.drop b,rfl,rfl,by omega,by omega,HLA.out.2.1,HLA.out.2.2,by show _=_;rw [HLA.out.1];omega,by show _=_;rw [← HP.out];exact hN,rfl,by rw [← HP.out];exact H.out,Turn.refl _ _⟩
 case round =>
  clear H e1 e2;obtain ⟨i,j,P,X,Y,Q,rfl,rfl,hi1,hj1,HX,HY,HM,HLEN,HR,HO,HT⟩:=hrel;have hij:i+j≤N:=by
   have:=HLEN.out;simp only [List.length_append,HX.out,HY.out] at this;omega
  have hpm:P.length+i=m:=HM.out;have hlen2:P.length+i+j+Q.length=N:=by
   have:=HLEN.out;simp only [List.length_append,HX.out,HY.out] at this;omega
  have e1:IntKind.i64.wrap ((m:Int)-(i:Int))=((P.length:Nat):Int):=by rw [IntWalk.i64_in _ ⟨by omega,by omega⟩];omega
  rcases Nat.lt_trichotomy i j with hlt|heq|hgt
  ·have hne:¬ ((i:Int)=(j:Int)):=by omega
   have hng:¬ ((j:Int)<(i:Int)):=by omega
   obtain ⟨q,hq⟩:∃ q,q=m+j-i:=⟨_,rfl⟩;obtain ⟨r,hr⟩:∃ r,r=j-i:=⟨_,rfl⟩;have e2:IntKind.i64.wrap ((m:Int)+(j:Int))=(m:Int)+(j:Int):=by rw [IntWalk.i64_in _ ⟨by omega,by omega⟩]
   have e3:IntKind.i64.wrap ((m:Int)+(j:Int)-(i:Int))=(q:Int):=by rw [IntWalk.i64_in _ ⟨by omega,by omega⟩];omega
   have e4:IntKind.i64.wrap ((j:Int)-(i:Int))=(r:Int):=by rw [IntWalk.i64_in _ ⟨by omega,by omega⟩];omega
   obtain ⟨X',Y',Q',hX',hY',hS,hR⟩:=Sym.rot_lt (Q:=Q) HX.out HY.out HM.out hlt;have HC:=lh (swapr_any g c base P.length (m+j-i) i N _ HLEN.out cv wr HO.out (by omega) (by omega) hl);have hlen3:=(Sym.swr_len (P++(X++(Y++Q))) P.length (m+j-i) i).trans HLEN.out;rw [hS] at HC hlen3;rw [← hq] at HC;rw [← hr] at hY';have hr1:1≤r:=by omega
   have HRR:=lh hr;have HL3:=lh hlen3;have HX':=lh hX';have HY':=lh hY';have HR':=lh hR;clear hlen3 hX' hY' hR hS hq hr;go_wp2_with (go_at_call 223;refine hold ?_);refine unhold ?_;refine HC.out.mono ?_;rintro e w' ⟨rfl,hO,hT⟩;have HO':=lh hO;have HT':=lh (HT.out.trans hT);clear hO hT HC HO HT;go_wp2;go_roundw
   case rel=>exact ⟨i,r,P,X',Y',Q',rfl,rfl,hi1,hr1,HX'.out,HY'.out,HM.out,HL3.out,HR'.out.trans HR.out,HO'.out,HT'.out⟩
   case measure=>have:=HRR.out;simp [intOf];omega
  ·subst heq;have hS:=Sym.rot_eq (Q:=Q) HX.out HY.out HM.out;have HC:=lh (swapr_any g c base P.length m i N _ HLEN.out cv wr HO.out (by omega) (by omega) hl);rw [hS,HR.out] at HC;clear hS;go_wp2_with (go_at_call 223;refine hold ?_);refine unhold ?_;refine HC.out.mono ?_;rintro e w' ⟨rfl,hO,hT⟩;have HO':=lh hO;have HT':=lh (HT.out.trans hT);clear hO hT HC HO HT;go_wp2;go_end0;exact ⟨rfl,HO'.out,HT'.out⟩
  ·have hne:¬ ((i:Int)=(j:Int)):=by omega
   have e4:IntKind.i64.wrap ((i:Int)-(j:Int))=((i-j:Nat):Int):=by rw [IntWalk.i64_in _ ⟨by omega,by omega⟩];omega
   obtain ⟨P',X',Y',hX',hY',hP',hS,hR⟩:=Sym.rot_gt (Q:=Q) HX.out HY.out HM.out hgt;have HC:=lh (swapr_any g c base P.length m j N _ HLEN.out cv wr HO.out (by omega) (by omega) hl);have hlen3:=(Sym.swr_len (P++(X++(Y++Q))) P.length m j).trans HLEN.out;rw [hS] at HC hlen3;have HL3:=lh hlen3;have HX':=lh hX';have HY':=lh hY';have HP':=lh hP';have HR':=lh hR;clear hlen3 hX' hY' hP' hR hS;go_wp2_with (go_at_call 223;refine hold ?_);refine unhold ?_;refine HC.out.mono ?_;rintro e w' ⟨rfl,hO,hT⟩;have HO':=lh hO;have HT':=lh (HT.out.trans hT);clear hO hT HC HO HT;go_wp2;go_roundw
   case rel=>exact ⟨i-j,j,P',X',Y',Q,by go_num,rfl,by omega,hj1,HX'.out,HY'.out,HP'.out,HL3.out,HR'.out.trans HR.out,HO'.out,HT'.out⟩
   case measure=>simp [intOf];omega
structure CmpOk(f:Nat)(lb:Array Value)(cm:Rw→Rw→Int)(M:Rw→Prop)(w0:World)(g:Nat):Prop where
 enter:∀ args w,(callFunc f args).run Tryz.prog w=.ok (.enter f args) w
 call:∀ (W:World) (x y:Rw),M x→M y→Turn w0 W [g]→Calls Tryz.prog f (#[.slice x.A x.vs.length x.c,.slice y.A y.vs.length y.c]++lb) W fun e w'=>e=.returned (.int .i64 (cm x y))∧Keep W w'
def ltC(cm:Rw→Rw→Int)(x y:Rw):Bool:=decide (cm x y<0)
theorem inss_any(f:Nat)(lb:Array Value)(cm:Rw→Rw→Int)(M:Rw→Prop)(w0:World)(g c base a b N:Nat)(xs:List Rw)(w:World)(ho:Sym.Ord (ltC cm))(hc:CmpOk f lb cm M w0 g)(hM:∀ x∈xs,M x)(ht:Turn w0 w [g])(hN:xs.length=N)(h:OwnR w base (.slice (some ⟨g,0,none⟩) N c) xs)(hab:a≤b)(hb:b≤N)(hl:N≤1000000000) :
 Calls Tryz.prog 151 #[.slice (some ⟨g,0,none⟩) N c,.int .i64 a,.int .i64 b,.func (.func f) #[] lb] w fun e w'=>e=.returned (.tuple #[])∧∃ ys,Sym.Mrg (ltC cm) xs a b ys∧OwnR w' base (.slice (some ⟨g,0,none⟩) N c) ys∧Turn w w' [g]:=by
 have H:=lh h;have HC:=lh hc.call;have eg:=hc.enter;have HM:=lh hM;have HT0:=lh ht;have HOrd:=lh ho;have e0:IntKind.i64.wrap ((a:Int)+1)=((a+1:Nat):Int):=by rw [IntWalk.i64_in _ ⟨by omega,by omega⟩];omega
 clear h hc hM ht ho;go_enter Tryz.func151,Tryz.ntmps151;go_wp2;go_loopw [8] (fun vi wr=>∃ (i:Nat) (ys:List Rw),vi=.int .i64 i∧a+1≤i∧i≤b+1∧Hid (Sym.Mrg (ltC cm) xs a (min i b) ys)∧Hid (OwnR wr base (.slice (some ⟨g,0,none⟩) N c) ys)∧Hid (Turn w wr [g])) (fun vi _=>b+1-(intOf vi).toNat)
 case atStart =>
  refine ⟨a+1,xs,by go_num,Nat.le_refl _,by omega,?_,H.out,Turn.refl _ _⟩;show Sym.Mrg _ _ _ _ _;refine Sym.Mrg.refl ?_
  rcases Nat.eq_or_lt_of_le hab with e|e
  ·rw [show min (a+1) b=a by omega];exact Sym.seg_srt_nil _ _
  ·rw [show min (a+1) b=a+1 by omega];exact Sym.seg_srt_one _ _ (by omega)
 case round =>
  clear H e0;obtain ⟨i,ys,rfl,hi1,hi2,HG,HO,HT⟩:=hrel
  by_cases hlt:i<b
  ·have hlen:ys.length=N:=HG.out.len.trans hN;have HLEN:=lh hlen;have hiN:i<ys.length:=by omega
   have HIN:=lh hiN;have HMY:=lh (HG.out.mem HOrd.out (by omega) HM.out);have hpos:0<a+1:=Nat.succ_pos _;clear hlen hiN;go_wp2;go_loopw [9] (fun vj wq=>∃ j:Nat,vj=.int .i64 j∧a≤j∧j≤i∧Hid (j=i∨∃ h:j<ys.length,ltC cm (ys[i]'HIN.out) ys[j]=true)∧Hid (OwnR wq base (.slice (some ⟨g,0,none⟩) N c) (Sym.rotL ys j i (i+1)))∧Hid (Turn w wq [g])) (fun vj _=>(intOf vj).toNat)
   case atStart=>exact ⟨i,rfl,by omega,Nat.le_refl _,.inl rfl,(by show OwnR _ _ _ _;rw [Sym.rot_self];exact HO.out),HT.out⟩
   case round =>
    clear HO HT;obtain ⟨j,rfl,hj1,hj2,HGT,HO,HT⟩:=hrel;have hstop:(j=a∨∃ h:j-1<ys.length,ltC cm (ys[i]'HIN.out) ys[j-1]=false)→Sym.Mrg (ltC cm) xs a (i+1) (Sym.rotL ys j i (i+1)):=fun hs=>by
     have hL:=HG.out.stb.1;rw [show min i b=i by omega] at hL;have h1:=Sym.ins_left HOrd.out hj1 hj2 HIN.out hL hs HGT.out;have h0:=HG.out;rw [show min i b=i by omega] at h0;exact h0.more h1 (by omega) (by omega)
    have HST:=lh hstop;clear hstop
    by_cases hja:a<j
    ·have hin:=HIN.out;have hle:=HLEN.out;obtain ⟨hk1,hx1⟩:=Sym.rot_at ys j i hj2 hin;obtain ⟨q,hq⟩:∃ q,q+1=j:=⟨j-1,by omega⟩;have hjq:j-1=q:=by omega
     obtain ⟨hk2,hx2⟩:=Sym.rot_before ys j i q hj2 hin (by omega);have hj3:q<ys.length:=by omega
     have hrl:N=(Sym.rotL ys j i (i+1)).length:=by rw [Sym.rotL_len ys j i (i+1) hj2 (by omega) (by omega)];exact hle.symm
     have hdn:=Sym.rot_down' ys j q i hq hj2 hin;rw [Sym.swp_at hk1 hk2,hx1,hx2] at hdn;have HOW:=lh (fun (W:World) (hW:Keep wr W)=>(show (W.cell? ⟨g,j,none⟩=some (.slice ys[i].A ys[i].vs.length ys[i].c)∧W.frozen? ⟨g,j,none⟩=false∧g<W.heap.size)∧(W.cell? ⟨g,q,none⟩=some (.slice ys[q].A ys[q].vs.length ys[q].c)∧W.frozen? ⟨g,q,none⟩=false)∧OwnR ((W.setCell ⟨g,j,none⟩ (.slice ys[q].A ys[q].vs.length ys[q].c)).setCell ⟨g,q,none⟩ (.slice ys[i].A ys[i].vs.length ys[i].c)) base (.slice (some ⟨g,0,none⟩) N c) (Sym.rotL ys q i (i+1)) from by
      have ho:=HO.out.keep hW;obtain ⟨a0,a1,a2,a3⟩:=ho.cell1 rw_f hrl j hk1;obtain ⟨b0,b1,b2,b3⟩:=ho.cell1 rw_f hrl q hk2;rw [hx1] at a0;rw [hx2] at b0;refine ⟨⟨a0,a1,a2⟩,⟨b0,b1⟩,?_⟩;have ho2:=ho.set1 rw_f hrl j ys[q] rfl;have ho3:=ho2.set1 rw_f (by rw [List.length_set];exact hrl) q ys[i] rfl;rw [hdn] at ho3;exact ho3))
     have HCA:=lh (fun W (hW:Turn w0 W [g])=>HC.out W ys[i] ys[q] (HMY.out _ (List.getElem_mem _)) (HMY.out _ (List.getElem_mem _)) hW);have HST2:=lh (fun hz:cm ys[i] ys[q]<0=>(show q=i∨∃ h:q<ys.length,ltC cm (ys[i]'HIN.out) ys[q]=true from .inr ⟨by omega,decide_eq_true hz⟩));have HST3:=lh (fun hz:¬ cm ys[i] ys[q]<0=>HST.out (.inr ⟨by omega,by simp only [hjq];exact decide_eq_false hz⟩));have HTW:=lh (HT0.out.trans HT.out);generalize cm ys[i] ys[q]=z at HCA HST2 HST3;generalize hxx:ys[i]=x at HOW HCA;have HXX:=lh hxx;clear hxx;generalize ys[q]=y at HOW HCA;clear hdn hx1 hx2 hk1 hk2 hrl HST HC;have e1:IntKind.i64.wrap ((j:Int)-1)=(q:Int):=by rw [IntWalk.i64_in _ ⟨by omega,by omega⟩];omega
     have hq2:q<N:=by omega
     have HQ3:=lh hq;have hjN:j<N:=by omega
     clear hq hjq hle hj3;obtain ⟨⟨a0,a1,a2⟩,⟨b0,b1⟩,_⟩:=HOW.out wr (Keep.refl _)
     by_cases hz:z<0
     ·go_wp2
      first|refine Zone.wp_region_all_gro (by kernel_rfl) (by kernel_rfl) ?_|refine Zone.wp_region_all (by kernel_rfl) (by kernel_rfl) ?_
      repeat
       refine Zone.wpZ_step (fun K hK=>?_);go_simp
       first
       | (refine hK _ _ ?_;clear hK K)
       | (apply Exists.intro
          refine ⟨fun p=>?_,hK _ _ ?_⟩
          ((go_at_fn f;exact Zone.zc (HCA.out _ (HTW.out.trans (Turn.keep (by repeat first|exact kp0|apply kp1|apply kp2|apply kp3|apply kp4) _)))))
          clear hK K)
      refine Zone.wpZ_nil ?_;intro p;simp only [Zone.fill];have hk1:Keep wr (wr.gro p):=(by repeat first|exact kp0|apply kp1|apply kp2|apply kp3|apply kp4);generalize wr.gro p=w1 at hk1 ⊢;have HK1:=lh hk1;clear a0 a1 a2 b0 b1 hk1;obtain ⟨⟨a0,a1,a2⟩,⟨b0,b1⟩,ho3⟩:=HOW.out w1 HK1.out;have HO3:=lh ho3;have HG2:=lh (Turn.set2 w1 g j q (.slice y.A y.vs.length y.c) (.slice x.A x.vs.length x.c));have hne:j≠q:=by have:=HQ3.out;omega
      have HZ:=lh (HST2.out hz);clear ho3 HST2 HST3 HOW HCA;go_wp2;go_region;generalize hW:(w1.setCell ⟨g,j,none⟩ (.slice y.A y.vs.length y.c)).setCell ⟨g,q,none⟩ (.slice x.A x.vs.length x.c)=w3 at HO3 HG2 ⊢;clear hW;go_wp2;go_roundw
      case rel=>obtain rfl:=HXX.out;exact ⟨q,rfl,by have:=HQ3.out;omega,by have:=HQ3.out;omega,HZ.out,HO3.out.keep (by repeat first|exact kp0|apply kp1|apply kp2|apply kp3|apply kp4),HT.out.trans ((Turn.keep HK1.out _).trans (HG2.out.trans (Turn.keep (by repeat first|exact kp0|apply kp1|apply kp2|apply kp3|apply kp4) _)))⟩
      case measure=>have:=HQ3.out;simp [intOf];omega
     ·have hdz:decide (z<0)=false:=decide_eq_false hz;go_wp2
      first|refine Zone.wp_region_all_gro (by kernel_rfl) (by kernel_rfl) ?_|refine Zone.wp_region_all (by kernel_rfl) (by kernel_rfl) ?_
      repeat
       refine Zone.wpZ_step (fun K hK=>?_);go_simp
       first
       | (refine hK _ _ ?_;clear hK K)
       | (apply Exists.intro
          refine ⟨fun p=>?_,hK _ _ ?_⟩
          ((go_at_fn f;exact Zone.zc (HCA.out _ (HTW.out.trans (Turn.keep (by repeat first|exact kp0|apply kp1|apply kp2|apply kp3|apply kp4) _)))))
          clear hK K)
      refine Zone.wpZ_nil ?_;intro p;simp only [Zone.fill];have hk1:Keep wr (wr.gro p):=(by repeat first|exact kp0|apply kp1|apply kp2|apply kp3|apply kp4);generalize wr.gro p=w1 at hk1 ⊢;have HK1:=lh hk1;have HZ:=lh (HST3.out hz);clear a0 a1 a2 b0 b1 hk1 HST2 HST3 HOW HCA hz;go_wp2;go_roundw
      case rel=>exact ⟨i+1,_,by go_num,by omega,by omega,(by show Sym.Mrg _ _ _ _ _;rw [show min (i+1) b=i+1 by omega];exact HZ.out),HO.out.keep HK1.out,HT.out.trans (Turn.keep HK1.out _)⟩
      case measure=>simp [intOf];omega
    ·have hjj:j=a:=by omega
     have HST2:=lh (HST.out (.inl hjj));clear HST hja;subst hjj;go_wp2
     first|refine Zone.wp_region_all_gro (by kernel_rfl) (by kernel_rfl) ?_|refine Zone.wp_region_all (by kernel_rfl) (by kernel_rfl) ?_
     repeat
      refine Zone.wpZ_step (fun K hK=>?_);go_simp
      first
      | (refine hK _ _ ?_;clear hK K)
      | (apply Exists.intro
         refine ⟨fun p=>?_,hK _ _ ?_⟩
         (fail)
         clear hK K)
     refine Zone.wpZ_nil ?_;intro p;simp only [Zone.fill];have hk1:Keep wr (wr.gro p):=(by repeat first|exact kp0|apply kp1|apply kp2|apply kp3|apply kp4);generalize wr.gro p=w1 at hk1 ⊢;have HK1:=lh hk1;clear hk1;go_wp2;go_roundw
     case rel=>exact ⟨i+1,_,by go_num,by omega,by omega,(by show Sym.Mrg _ _ _ _ _;rw [show min (i+1) b=i+1 by omega];exact HST2.out),HO.out.keep HK1.out,HT.out.trans (Turn.keep HK1.out _)⟩
     case measure=>simp [intOf];omega
  ·have hib:min i b=b:=by omega
   rw [hib] at HG;clear hib;go_wp2;go_end0;exact ⟨rfl,ys,HG.out,HO.out,HT.out⟩
theorem ownr_at{W:World}{base g N c:Nat}{L:List Rw}(h:OwnR W base (.slice (some ⟨g,0,none⟩) N c) L)(hl:L.length=N)(j:Nat)(hj:j<L.length) :
 W.cell? ⟨g,j,none⟩=some (.slice L[j].A L[j].vs.length L[j].c)∧W.frozen? ⟨g,j,none⟩=false∧g<W.heap.size:=by
 obtain ⟨a0,a1,a2,_⟩:=h.cell1 rw_f hl.symm j hj;exact ⟨a0,a1,a2⟩
theorem ownr_swp{W:World}{base g N c:Nat}{L:List Rw}(h:OwnR W base (.slice (some ⟨g,0,none⟩) N c) L)(hl:L.length=N)(i j:Nat)(hi:i<L.length)(hj:j<L.length) :
 OwnR ((W.setCell ⟨g,i,none⟩ (.slice L[j].A L[j].vs.length L[j].c)).setCell ⟨g,j,none⟩ (.slice L[i].A L[i].vs.length L[i].c)) base (.slice (some ⟨g,0,none⟩) N c) (Sym.swp L i j):=by
 rw [Sym.swp_at hi hj];have h2:=h.set1 rw_f hl.symm i L[j] rfl;exact h2.set1 rw_f (by rw [List.length_set];exact hl.symm) j L[i] rfl
theorem syml_any(f:Nat)(lb:Array Value)(cm:Rw→Rw→Int)(M:Rw→Prop)(w0:World)(g c base a m b N:Nat)(xs:List Rw)(w:World)(ho:Sym.Ord (ltC cm))(hc:CmpOk f lb cm M w0 g)(hM:∀ x∈xs,M x)(ht:Turn w0 w [g])(hN:xs.length=N)(h:OwnR w base (.slice (some ⟨g,0,none⟩) N c) xs)(ham:m=a+1)(hmb:m<b)(hb:b≤N)(hl:N≤1000000000)(hR:Sym.Srt (ltC cm) (Sym.seg xs m b)) :
 Calls Tryz.prog 152 #[.slice (some ⟨g,0,none⟩) N c,.int .i64 a,.int .i64 m,.int .i64 b,.func (.func f) #[] lb] w fun e w'=>e=.returned (.tuple #[])∧∃ ys,Sym.Mrg (ltC cm) xs a b ys∧OwnR w' base (.slice (some ⟨g,0,none⟩) N c) ys∧Turn w w' [g]:=by
 have H:=lh h;have HC:=lh hc.call;have eg:=hc.enter;have HM:=lh hM;have HT0:=lh ht;have HOrd:=lh ho;have HRR:=lh hR;have HAM:=lh ham;have HN:=lh hN;have e0:IntKind.i64.wrap ((m:Int)-(a:Int))=1:=by rw [IntWalk.i64_in _ ⟨by omega,by omega⟩];omega
 have ha1:a<N:=by omega
 have hm1:0<m:=by omega
 have HA1:=lh (show a<xs.length by omega);clear h hc hM ht ho hR hN ham;go_enter Tryz.func152,Tryz.ntmps152;go_wp2;go_loopw [10,11] (fun vi vj wr=>∃ i j:Nat,vi=.int .i64 i∧vj=.int .i64 j∧m≤i∧i≤j∧j≤b∧Hid (i=m∨∃ h:i-1<xs.length,ltC cm xs[i-1] (xs[a]'HA1.out)=true)∧Hid (j=b∨∃ h:j<xs.length,ltC cm xs[j] (xs[a]'HA1.out)=false)∧Hid (Keep w wr)) (fun vi vj _=>(intOf vj).toNat-(intOf vi).toNat)
 case atStart=>exact ⟨m,b,rfl,rfl,Nat.le_refl _,by omega,Nat.le_refl _,.inl rfl,.inl rfl,Keep.refl _⟩
 case round =>
  obtain ⟨i,j,rfl,rfl,hi1,hij,hj,HI,HJ,HK⟩:=hrel
  by_cases hlt:i<j
  ·obtain ⟨p,hp⟩:∃ p:Nat,p=(i+j)/2:=⟨_,rfl⟩;have hme:((i:Int)+(j:Int))/2=(p:Int):=by omega
   have hp1:i≤p:=by omega
   have hp2:p<j:=by omega
   have hpN:p<N:=by omega
   have hpx:p<xs.length:=by have:=HN.out;omega
   obtain ⟨a0,a1,a2⟩:=ownr_at (H.out.keep HK.out) HN.out p hpx;obtain ⟨b0,b1,_⟩:=ownr_at (H.out.keep HK.out) HN.out a HA1.out;have HCA:=lh (fun W (hW:Turn w0 W [g])=>HC.out W xs[p] (xs[a]'HA1.out) (HM.out _ (List.getElem_mem _)) (HM.out _ (List.getElem_mem _)) hW);have HS2:=lh (fun hz:cm xs[p] (xs[a]'HA1.out)<0=>(show p+1=m∨∃ h:p+1-1<xs.length,ltC cm xs[p+1-1] (xs[a]'HA1.out)=true from .inr ⟨hpx,decide_eq_true hz⟩));have HS3:=lh (fun hz:¬ cm xs[p] (xs[a]'HA1.out)<0=>(show p=b∨∃ h:p<xs.length,ltC cm xs[p] (xs[a]'HA1.out)=false from .inr ⟨hpx,decide_eq_false hz⟩));have HTW:=lh (HT0.out.trans (Turn.keep HK.out _));generalize cm xs[p] (xs[a]'HA1.out)=z at HCA HS2 HS3;generalize hxx:xs[p]=x at a0 HCA;generalize hyy:(xs[a]'HA1.out)=y at b0 HCA;have HXX:=lh hxx;have HYY:=lh hyy;clear hxx hyy hp
   by_cases hz:z<0
   ·have HZ:=lh (HS2.out hz);clear HS2 HS3;go_wp2
    first|refine Zone.wp_region_all_gro (by kernel_rfl) (by kernel_rfl) ?_|refine Zone.wp_region_all (by kernel_rfl) (by kernel_rfl) ?_
    repeat
     refine Zone.wpZ_step (fun K hK=>?_);go_simp
     first
     | (refine hK _ _ ?_;clear hK K)
     | (apply Exists.intro
        refine ⟨fun p=>?_,hK _ _ ?_⟩
        ((go_at_fn f;exact Zone.zc (HCA.out _ (HTW.out.trans (Turn.keep (by repeat first|exact kp0|apply kp1|apply kp2|apply kp3|apply kp4) _)))))
        clear hK K)
    refine Zone.wpZ_nil ?_;intro p5;simp only [Zone.fill];go_wp2;go_roundw
    case rel=>obtain rfl:=HYY.out;exact ⟨p+1,j,by go_num,rfl,by omega,by omega,hj,HZ.out,HJ.out,HK.out.trans (by repeat first|exact kp0|apply kp1|apply kp2|apply kp3|apply kp4)⟩
    case measure=>simp [intOf];omega
   ·have HZ:=lh (HS3.out hz);have hdz:decide (z<0)=false:=decide_eq_false hz;clear HS2 HS3;go_wp2
    first|refine Zone.wp_region_all_gro (by kernel_rfl) (by kernel_rfl) ?_|refine Zone.wp_region_all (by kernel_rfl) (by kernel_rfl) ?_
    repeat
     refine Zone.wpZ_step (fun K hK=>?_);go_simp
     first
     | (refine hK _ _ ?_;clear hK K)
     | (apply Exists.intro
        refine ⟨fun p=>?_,hK _ _ ?_⟩
        ((go_at_fn f;exact Zone.zc (HCA.out _ (HTW.out.trans (Turn.keep (by repeat first|exact kp0|apply kp1|apply kp2|apply kp3|apply kp4) _)))))
        clear hK K)
    refine Zone.wpZ_nil ?_;intro p5;simp only [Zone.fill];go_wp2;go_roundw
    case rel=>obtain rfl:=HYY.out;exact ⟨i,p,rfl,rfl,hi1,hp1,by omega,HI.out,HZ.out,HK.out.trans (by repeat first|exact kp0|apply kp1|apply kp2|apply kp3|apply kp4)⟩
    case measure=>simp [intOf];omega
  ·have hji:j=i:=by omega
   subst hji;clear hij;obtain ⟨q,hq⟩:∃ q,q+1=j:=⟨j-1,by omega⟩;have e1:IntKind.i64.wrap ((j:Int)-1)=(q:Int):=by rw [IntWalk.i64_in _ ⟨by omega,by omega⟩];omega
   have HQ:=lh hq;have HE:=lh (show Sym.Mrg (ltC cm) xs a b (Sym.rotL xs a (a+1) j) from by
    have hA:=HAM.out;have hR:=HRR.out;have hI:=HI.out;rw [hA] at hR hI;exact Sym.ins_right HOrd.out (by omega) hj (by have:=HN.out;omega) hR HA1.out hI HJ.out)
   have hqa:a≤q:=by have:=HAM.out;omega
   have hqN:q<N:=by omega
   clear hq;go_wp2;go_loopw [13] (fun vk wr=>∃ k:Nat,vk=.int .i64 k∧a≤k∧k≤q∧Hid (OwnR wr base (.slice (some ⟨g,0,none⟩) N c) (Sym.rotL xs a (a+1) (k+1)))∧Hid (Turn w wr [g])) (fun vk _=>q-(intOf vk).toNat)
   case atStart=>exact ⟨a,rfl,Nat.le_refl _,hqa,(by show OwnR _ _ _ _;rw [Sym.rotL_right xs a (a+1) (by omega)];exact H.out.keep HK.out),Turn.keep HK.out _⟩
   case round =>
    clear H HI HJ HK;obtain ⟨k,rfl,hk1,hk2,HO,HT⟩:=hrel
    by_cases hkq:k<q
    ·have hrl:(Sym.rotL xs a (a+1) (k+1)).length=N:=by have:=HN.out;have:=HA1.out;rw [Sym.rotL_len xs a (a+1) (k+1) (by omega) (by omega) (by omega)];omega
     have hup:=Sym.rot_up xs a k hk1 (by have:=HN.out;omega);have hkl:k<(Sym.rotL xs a (a+1) (k+1)).length:=by omega
     have hkl2:k+1<(Sym.rotL xs a (a+1) (k+1)).length:=by omega
     obtain ⟨a0,a1,a2⟩:=ownr_at HO.out hrl k hkl;obtain ⟨b0,b1,_⟩:=ownr_at HO.out hrl (k+1) hkl2;have ho3:=ownr_swp HO.out hrl k (k+1) hkl hkl2;rw [hup] at ho3;have HO3:=lh ho3;generalize (Sym.rotL xs a (a+1) (k+1))[k]=x at a0 HO3;generalize (Sym.rotL xs a (a+1) (k+1))[k+1]=y at b0 HO3;have HG2:=lh (Turn.set2 wr g k (k+1) (.slice y.A y.vs.length y.c) (.slice x.A x.vs.length x.c));have hne:k≠k+1:=by omega
     have hk1N:k+1<N:=by omega
     clear ho3 hup hkl hkl2 hrl;go_wp2;go_region;generalize hW:(wr.setCell ⟨g,k,none⟩ (.slice y.A y.vs.length y.c)).setCell ⟨g,k+1,none⟩ (.slice x.A x.vs.length x.c)=w3 at HO3 HG2 ⊢;clear hW;go_wp2;go_roundw
     case rel=>exact ⟨k+1,by go_num,by omega,by omega,HO3.out.keep (by repeat first|exact kp0|apply kp1|apply kp2|apply kp3|apply kp4),HT.out.trans (HG2.out.trans (Turn.keep (by repeat first|exact kp0|apply kp1|apply kp2|apply kp3|apply kp4) _))⟩
     case measure=>simp [intOf];omega
    ·have hkk:k=q:=by omega
     subst hkk;rw [HQ.out] at HO;go_wp2;exact bodyPost_ret (v:=.tuple #[]) (by simp [results,Tryz.results152,go_sem]) rfl ⟨rfl,_,HE.out,HO.out,HT.out⟩
end Go.Proofs.YtpkocnpamcchcaaGreatDoor
