/- Parts of the proof. -/
import Derived.Test.YtpkocnpamcchcaaGreatDoorK46
import Derived.Test.YtpkocnpamcchcaaGreatDoorK48
set_option maxRecDepth 100000
set_option maxHeartbeats 4000000
set_option linter.unusedSimpArgs false
set_option linter.unusedVariables false
set_option linter.unnecessarySimpa false
namespace Go.Proofs.YtpkocnpamcchcaaGreatDoor
open Go.RowKit Go.Zone Go.Shelf
attribute [local go_sem] zone stepZ fill lookFs goes goesUpon dropFs cell_gro frozen_gro size_gro lt_add drew_gro tape_gro keep_refl
attribute [local go_sem] lt_add2 lt_add3 lt_add4 lt_add5 lt_add6 lt_add7 lt_add8 lt_add9 lt_add10 lt_add11 lt_add12
theorem getD_atS{α:Type}(l:List α)(i:Nat)(d:α)(h:i<l.length):l.getD i d=l[i]:=by simp [h]
theorem byte_at{B:List UInt8}{p i:Nat}{x:UInt8}{X Y:List UInt8}(h:B.drop p=X++(x :: Y))(hi:X.length=i):∃ hb:p+i<B.length,B[p+i]=x:=by
 have hl:=congrArg List.length h;simp only [List.length_drop,List.length_append,List.length_cons] at hl;refine ⟨by omega,?_⟩;have:(B.drop p)[i]'(by simp;omega)=x:=by
  subst hi;simp only [h];simp
 rwa [List.getElem_drop] at this
theorem rread_any(A:Option Addr)(c:Nat)(S:List Sec)(B:List UInt8)(w:World)(hB:B=imageB S)(h:SlB w A c B)(hp:SecsP S) :
 Calls Tryz.prog 12 #[.slice A B.length c] w fun e w'=>∃ A' c' L,e=.returned (.tuple #[.slice A' L.length c',.int .i64 0])∧Sl w' 2 Sec.cells A' c' L∧SecsAt w' L∧L.map nbS=S.map nbS∧Keep w w':=by
 have hlen:B.length=6+(S.flatMap secB).length:=by rw [hB];simp [imageB,le_len];omega
 have hbl:=h.len;have hbig:=h.big;have hcap:=h.cap;have hf:=hp.few;have hlS:=secs_len S hp.at_;have HP:=lh hp;have HAT:=lh (fun k hk=>show ∃ rest,B.drop (posB S k)=_ from hB ▸ at_sec S k hk);have HPS:=lh (posB_succ S);have HPE:=lh (show posB S S.length=B.length from hB ▸ posB_end S);obtain ⟨b,off,hA⟩:∃ b off,A=some ⟨b,off,none⟩:=by
  obtain ⟨b,off,hA,_⟩:=h.at_ 0 (by omega);exact ⟨b,off,hA⟩
 subst hA;have h6:6≤B.length:=by omega
 have hd6:B=[73,83,71,76,UInt8.ofNat (S.length/256^0),UInt8.ofNat (S.length/256^1)]++S.flatMap secB:=by rw [hB];simp [imageB,le]
 have g:∀ i,(hi:i<6)→B[i]'(by omega)=[73,83,71,76,UInt8.ofNat (S.length/256^0),UInt8.ofNat (S.length/256^1)][i]:=fun i hi=>by
  simp only [hd6];rw [List.getElem_append_left]
 have hc:∀ i,(hi:i<6)→w.cell? ⟨b,off+i,none⟩=some (.int .u8 (([73,83,71,76,UInt8.ofNat (S.length/256^0),UInt8.ofNat (S.length/256^1)]:List UInt8)[i].toNat:Int)):=fun i hi=>by
  obtain ⟨_,_,e,_,hc⟩:=sl_b8 h i (by omega)
  cases e
  rw [g i hi] at hc;exact hc
 have hbs:b<w.heap.size:=block_lt_of_cell (hc 0 (by decide));have c0:w.cell? ⟨b,off,none⟩=some (.int .u8 73):=hc 0 (by decide);have c1:w.cell? ⟨b,off+1,none⟩=some (.int .u8 83):=hc 1 (by decide);have c2:w.cell? ⟨b,off+2,none⟩=some (.int .u8 71):=hc 2 (by decide);have c3:w.cell? ⟨b,off+3,none⟩=some (.int .u8 76):=hc 3 (by decide);obtain ⟨d4,hd4⟩:∃ d4,d4=S.length%256:=⟨_,rfl⟩;obtain ⟨d5,hd5⟩:∃ d5,d5=S.length/256:=⟨_,rfl⟩;have c4:w.cell? ⟨b,off+4,none⟩=some (.int .u8 (d4:Int)):=by rw [hd4];exact (hc 4 (by decide)).trans (by simp only [List.getElem_cons_succ,List.getElem_cons_zero,u8_nat];simp)
 have c5:w.cell? ⟨b,off+5,none⟩=some (.int .u8 (d5:Int)):=by
  rw [hd5];exact (hc 5 (by decide)).trans (by simp only [List.getElem_cons_succ,List.getElem_cons_zero,u8_nat];simp;omega)
 have hd45:(d4:Int)+256*(d5:Int)=(S.length:Int):=by omega
 have HC:=lh (And.intro c4 c5);have HD:=lh hd45;have HB:=lh h;have hu4:d4<256:=by omega
 have hu5:d5<256:=by omega
 clear h g hd6 hp c4 c5 hc hlen hB hd4 hd5 hd45;go_enter Tryz.func12,Tryz.ntmps12;go_wp2;go_loopw [5] (fun i wr=>∃ k:Nat,k≤4∧i=.int .i64 k∧Hid (Keep w wr)) (fun i _=>4-(intOf i).toNat)
 case atStart=>exact ⟨0,Nat.zero_le _,rfl,Keep.refl _⟩
 case round =>
  obtain ⟨k,hk,rfl,HK⟩:=hrel;have hbw:b<wr.heap.size:=Nat.lt_of_lt_of_le hbs HK.out.size
  by_cases hlt:k<4
  ·have k0:=(HK.out.cell (p:=⟨b,off,none⟩) hbs).trans c0;have k1:=(HK.out.cell (p:=⟨b,off+1,none⟩) hbs).trans c1;have k2:=(HK.out.cell (p:=⟨b,off+2,none⟩) hbs).trans c2;have k3:=(HK.out.cell (p:=⟨b,off+3,none⟩) hbs).trans c3;have hcs:k=0∨k=1∨k=2∨k=3:=by omega
   have hnn:¬ B=[]:=by intro e;rw [e] at h6;simp at h6
   have s0:((⟨#[73,83,71,76]⟩:ByteArray)[0]'(by decide)).toNat=73:=by decide
   have s1:((⟨#[73,83,71,76]⟩:ByteArray)[1]'(by decide)).toNat=83:=by decide
   have s2:((⟨#[73,83,71,76]⟩:ByteArray)[2]'(by decide)).toNat=71:=by decide
   have s3:((⟨#[73,83,71,76]⟩:ByteArray)[3]'(by decide)).toNat=76:=by decide
   clear c0 c1 c2 c3
   rcases hcs with rfl|rfl|rfl|rfl
   all_goals
    go_wp2;go_region;go_wp2;go_roundw
    case rel=>exact ⟨_,by decide,rfl,HK.out.trans (by repeat first|exact kp0|apply kp1|apply kp2|apply kp3|apply kp4)⟩
    case measure=>simp [intOf]
  ·clear c0 c1 c2 c3;have k4:=(HK.out.cell (p:=⟨b,off+4,none⟩) hbs).trans HC.out.1;have k5:=(HK.out.cell (p:=⟨b,off+5,none⟩) hbs).trans HC.out.2;go_wp2;go_region;rw [HD.out];clear k4 k5 hu4 hu5;go_wp2;have hsS:∀ k,k≤S.length→Hid (posB S k≤B.length):=fun k hk=>by
    show _≤_;rw [← HPE.out];unfold posB;have h1:(S.take S.length).flatMap secB=(S.take k).flatMap secB++((S.take S.length).drop k).flatMap secB:=by rw [← List.flatMap_append];congr 1;simp
    rw [h1,List.length_append];omega
   have HSS:=lh hsS;clear hsS;go_loopw [7,8,9] (fun vat vl i wr=>∃ (k p:Nat) (o:Value) (L:List Sec),k≤S.length∧i=.int .i64 k∧vat=.int .i64 p∧o=vl∧Hid (p=posB S k)∧Hid (OwnC wr w.heap.size o L)∧Hid (L.map nbS=(S.take k).map nbS)∧Hid (∀ s∈L,OwnB wr w.heap.size (.slice s.A s.bs.length s.c) s.bs)∧Hid (Keep w wr)) (fun _ _ i _=>S.length-(intOf i).toNat)
   case atStart=>exact ⟨0,6,_,[],Nat.zero_le _,rfl,rfl,rfl,(by show _=_;simp [posB]),Own.nil_ _ _ _ _ _,rfl,(fun s hs=>by cases hs),HK.out.trans (by repeat first|exact kp0|apply kp1|apply kp2|apply kp3|apply kp4)⟩
   case round =>
    clear hbw HK;obtain ⟨k,p,o,L,hk,rfl,rfl,rfl,HPO,HOL,HLM,HLB,HK⟩:=hrel;have hpB:p≤B.length:=by rw [HPO.out];exact HSS.out k hk
    by_cases hlt:k<S.length
    ·obtain ⟨rest,hrest⟩:=HAT.out k hlt;have hps:=HPS.out k hlt;have hpn:=HSS.out (k+1) hlt;rw [← HPO.out] at hrest hps;have hnm:=HP.out.name k hlt;have hsm:=HP.out.small k hlt;have HFI:=lh (show idxP (isSec S[k].name) L 0= -1 by
         have hm:=HLM.out;have:∀ s∈L,isSec S[k].name s=false:=fun s hs=>by
          have h1:nbS s∈(S.take k).map nbS:=by rw [← hm];exact List.mem_map_of_mem hs
          obtain ⟨t,ht,he⟩:=List.mem_map.1 h1;obtain ⟨j,hj,rfl⟩:=List.getElem_of_mem ht;simp only [List.length_take] at hj;have:=HP.out.one k j hlt (by omega);simp only [nbS,Prod.mk.injEq,List.getElem_take] at he;simp only [isSec,beq_eq_false_iff_ne,ne_eq,← he.1];exact this
         rw [idxP_at _ L 0 L.length fun j hj _=>this _ (List.getElem_mem hj)];simp [idxP])
     have HLK:=lh (show (S.take (k+1)).map nbS=(S.take k).map nbS++[nbS S[k]] by rw [List.take_succ_eq_append_getElem hlt,List.map_append];rfl);generalize S[k]=s at hrest hps hnm hsm HFI HLK;obtain ⟨nm,sA,sc,sb⟩:=s;simp only at hrest hps hnm hsm HFI;have hn1:=hnm.lo;have hn2:=hnm.hi;have hok:=hnm.ok;have hnl:nm.data.toList.length=nm.size:=by rw [Lib.size_eq]
     have HNL:=lh hnl;have hge:p+1+nm.size+sb.length+8≤B.length:=by have:=hpn.out;omega
     obtain ⟨hx1,hx2⟩:=byte_at (X:=[]) hrest rfl;have hcell0:B[p]'(by omega)=UInt8.ofNat nm.size:=hx2;have HB1:=lh (show ∀ i,i<nm.size→p+1+i<B.length∧B.getD (p+1+i) 0=nm.data.toList.getD i 0 from fun i hi=>by
         have h2:B.drop p=([UInt8.ofNat nm.size]++nm.data.toList.take i)++(nm.data.toList[i]'(by omega) :: (nm.data.toList.drop (i+1)++(frameB sb++rest))):=by
          rw [hrest]
          conv=>lhs;rw [← List.take_append_drop i nm.data.toList,List.drop_eq_getElem_cons (show i<nm.data.toList.length by omega)]
          simp
         obtain ⟨h3,h4⟩:=byte_at (i:=1+i) h2 (by simp;omega);refine ⟨by omega,?_⟩;rw [getD_atS _ _ _ (by omega),getD_atS _ _ _ (by omega)]
         simpa [Nat.add_assoc] using h4)
     have HOK:=lh (show ∀ i,i<nm.size→okS (nm.data.toList.getD i 0).toNat=true from fun i hi=>by
         rw [getD_atS _ _ _ (by omega)];have:=hok i hi
         simpa [ByteArray.getElem_eq_getElem_data] using this)
     have HPX:=lh (show ∀ i,i<nm.size→preS nm i++⟨[nm.data.toList.getD i 0].toArray⟩=preS nm (i+1) from fun i hi=>by
         rw [getD_atS _ _ _ (by omega)];exact preS_succ nm i (by omega))
     have HPA:=lh (preS_all nm);have HBD:=lh (show B.drop (p+1+nm.size)=frameB sb++rest by
         rw [Nat.add_assoc,← List.drop_drop,hrest,← List.append_assoc,List.drop_left' (by simp;omega)])
     obtain ⟨b1,off1,e1,hbw,k0⟩:=sl_b8 (HB.out.keep HK.out) p (by omega)
     cases e1
     rw [hcell0,u8_nat,show (nm.size:Int)%256=(nm.size:Int) by omega] at k0;have HPK:=lh hps;clear hrest hx1 hx2 hcell0 hps hpn hnl hok hnm;obtain ⟨z,hz⟩:∃ z,z=nm.size:=⟨_,rfl⟩;rw [← hz] at k0 hn1 hn2 hge HB1 HOK HPX HPA HBD HPK;have HZ:=lh hz;clear hz;have hz0:((z:Int)==0)=false:=by simp;omega
     have hdp:decide (B.length≤p)=false:=by simp;omega
     go_wp2;go_loopw [7,11,12] (fun vat vs i wr=>∃ m:Nat,m≤z∧i=.int .i64 m∧vat=.int .i64 (p+1+m:Nat)∧vs=.string (preS nm m)∧Hid (OwnC wr w.heap.size o L)∧Hid (∀ s∈L,OwnB wr w.heap.size (.slice s.A s.bs.length s.c) s.bs)∧Hid (Keep w wr)) (fun _ _ i _=>z-(intOf i).toNat)
     case atStart=>exact ⟨0,Nat.zero_le _,rfl,by go_num,rfl,HOL.out,HLB.out,HK.out⟩
     case round =>
         clear k0 HOL HLB HK hbw;obtain ⟨m,hm,rfl,rfl,rfl,HOL,HLB,HK⟩:=hrel
         by_cases hmz:m<z
         ·obtain ⟨hi,hbi⟩:=HB1.out m hmz;have hokm:=HOK.out m hmz;have HPM:=lh (HPX.out m hmz);generalize nm.data.toList.getD m 0=x at hokm HPM hbi;obtain ⟨q,hq⟩:∃ q,q=p+1+m:=⟨_,rfl⟩;have hq2:((p+1+m:Nat):Int)=(q:Int):=by omega
          rw [← hq] at hi hbi ⊢;rw [getD_atS _ _ _ hi] at hbi;obtain ⟨b1,off1,e1,hbw,k0⟩:=sl_b8 (HB.out.keep HK.out) q hi
          cases e1
          rw [hbi] at k0;have hcc:q+1≤c:=by omega
          have hpz:(preS nm m).size≤1000:=by
           have h1:(preS nm m).size=(nm.data.toList.take m).length:=List.size_toArray;rw [h1,List.length_take];omega
          have HQ:=lh hq;have HBX:=lh hbi;clear hq hbi hq2;go_wp2_with (go_at_call 43;refine hold ?_);refine unhold ?_;refine (letter_any _ _).mono ?_;rintro e w5 ⟨rfl,hk5⟩;have HK5:=lh (HK.out.trans hk5);have HOL5:=lh (HOL.out.keep hk5);have HLB5:=lh (fun s hs=>(HLB.out s hs).keep hk5);have hst5:=strB (w:=w5) (A:=some ⟨b,off+q,none⟩) (c:=c-q) (l:=[x]) (by
           have h1:=((slB_drop (HB.out.keep HK5.out) q (by omega))).cut_front 1 (by simp;omega);have h2:=HBX.out;rw [show (B.drop q).take 1=[x] by rw [List.drop_eq_getElem_cons hi,h2];rfl] at h1;exact h1)
          simp only [List.length_singleton] at hst5;clear HOL HLB HK hk5;go_wp2;go_roundw
          case rel =>
           exact ⟨m+1,by omega,by go_num,(by have:=HQ.out;exact congrArg (Value.int .i64) (by omega)),by rw [← HPM.out],HOL5.out,HLB5.out,HK5.out⟩
          case measure=>simp [intOf];omega
         ·have hmz':m=z:=by omega
          subst hmz';rw [HPA.out];obtain ⟨q,hq⟩:∃ q,q=p+1+m:=⟨_,rfl⟩;have hq2:((p+1+m:Nat):Int)=(q:Int):=by omega
          rw [← hq] at HBD ⊢;have hqB:q≤B.length:=by omega
          have HQ:=lh hq;obtain ⟨Al,cl,rfl,hsl⟩:=Own.sl HOL.out sec_len (by
           have:=congrArg List.length HLM.out;simp only [List.length_map,List.length_take] at this;omega)
          have HSL:=lh hsl;have hqs:q+sb.length+8≤140737488355328:=by omega
          clear hq hq2 hsl;go_wp2_with (go_at_call 44;refine hold ?_);refine unhold ?_;refine (rsecf_any Al cl L nm _ HSL.out).mono ?_;rintro e w5 ⟨rfl,hk5⟩;rw [HFI.out];have HK5:=lh (HK.out.trans hk5);have HOL5:=lh (HOL.out.keep hk5);have HLB5:=lh (fun s hs=>(HLB.out s hs).keep hk5);clear HOL HLB HK hk5 HSL;go_wp2_with (go_at_call 45;refine hold ?_);refine unhold ?_;refine (unframe_any (some ⟨b,off,none⟩) c q B sb rest _ (HB.out.keep HK5.out) hqB HBD.out hsm).mono ?_;rintro e w6 ⟨v6,rfl,hown6,hk6⟩;obtain ⟨A6,c6,rfl,hs6⟩:=ownB_sl hown6 (by omega);have HK6:=lh (HK5.out.trans hk6);have HOL6:=lh (HOL5.out.keep hk6);have HLB6:=lh (fun s hs=>(HLB5.out s hs).keep hk6);have HO6:=lh (hown6.base_mono HK5.out.size);have HLL:=lh (show L.length≤2000 by
           have:=congrArg List.length HLM.out;simp only [List.length_map,List.length_take] at this;omega)
          clear HOL5 HLB5 HK5 hk6 hown6 hs6;obtain ⟨q2,hq2⟩:∃ q2,q2=q+sb.length+8:=⟨_,rfl⟩;rw [← hq2];have HQ2:=lh hq2;clear hq2 hqs;go_wp2_with (at_builtin;refine hold ?_);refine unhold ?_;have hke:Keep w6 (w6.alloc (.cells #[.string nm,.slice A6 sb.length c6] 68)):=(by repeat first|exact kp0|apply kp1|apply kp2|apply kp3|apply kp4);have HO7:OwnC (w6.alloc (.cells #[.string nm,.slice A6 sb.length c6] 68)) w.heap.size (.slice Al L.length cl) L:=HOL6.out.keep hke;refine wpList_app elt_sec sec_len sec_one rfl (.tmp 108) (.tmp 112) rfl (ys:=[⟨nm,A6,c6,sb⟩]) HO7 rfl rfl (sl_one _ (by omega) (by omega) (fun j u hu=>by
           match j,hu with
           | 0,hu=>cases hu;simp [go_sem]
           | 1,hu=>cases hu;simp [go_sem])) (by have:=HLL.out;simp;omega) (by simp;exact Nat.le_succ_of_le HK6.out.size) ?_
          intro v8 w8 hown8 hg8 hd8;have ⟨a1,a2,_⟩:=HO7.after (w:=w) hg8 (HK6.out.trans hke) (Nat.le_refl _);have HLB8:=lh (show ∀ s∈L++[(⟨nm,A6,c6,sb⟩:Sec)],OwnB w8 w.heap.size (.slice s.A s.bs.length s.c) s.bs from fun s hs=>by
           have h1:OwnB (w6.alloc (.cells #[.string nm,.slice A6 sb.length c6] 68)) w.heap.size (.slice s.A s.bs.length s.c) s.bs:=by
               rcases List.mem_append.1 hs with h|h
               ·exact (HLB6.out s h).keep hke
               ·have:s=⟨nm,A6,c6,sb⟩:=by simpa using h
                subst this;exact HO6.out.keep hke
           exact h1.grown hg8 fun j hj=>ownC_apart HO7 h1 j hj)
          have HO8:=lh hown8;have HA8:=lh a1;clear hown8 hg8 hd8 a1 a2 HO7 hke HOL6 HLB6 HO6;have hq3:Hid (q2=posB S (k+1)):=by
           show _=_;rw [HPK.out,HQ2.out,HQ.out];omega
          go_wp2;go_roundw
          case rel=>exact ⟨k+1,q2,_,_,by omega,by go_num,rfl,rfl,hq3.out,HO8.out,(by
           show _=_;rw [List.map_append,HLM.out,HLK.out];rfl),HLB8.out,HA8.out⟩
          case measure=>simp [intOf];omega
    ·have hkS:k=S.length:=by omega
     subst hkS;have hpl:p=B.length:=by rw [HPO.out,HPE.out]
     have hlL:L.length≤2000:=by
         have:=congrArg List.length HLM.out;simp only [List.length_map,List.length_take] at this;omega
     obtain ⟨Al,cl,rfl,hsl⟩:=Own.sl HOL.out sec_len (by omega);have HSL:=lh hsl;have HLO:=lh hpl;have hpb:¬ p<B.length:=by omega
     clear hpl hsl;go_wp2;exact bodyPost_ret (v:=.tuple #[.slice Al L.length cl,.int .i64 0]) (by simp [results,Tryz.results12,go_sem]) rfl ⟨Al,cl,L,rfl,HSL.out,(fun s hs=>by
         obtain ⟨A9,c9,e9,h9⟩:=ownB_sl (HLB.out s hs) (by
          have h1:nbS s∈(S.take S.length).map nbS:=by rw [← HLM.out];exact List.mem_map_of_mem hs
          obtain ⟨t,ht,he⟩:=List.mem_map.1 h1;have h2:=(HP.out.at_ t (List.mem_of_mem_take ht)).2;simp only [nbS,Prod.mk.injEq] at he;rw [← he.2];omega)
         simp only [Value.slice.injEq,true_and] at e9;obtain ⟨rfl,rfl⟩:=e9;exact h9),by rw [HLM.out,List.take_length],HK.out⟩
def cfg0:Cfg:=⟨-1,none,0,[],none,0,[],none,0,[],1⟩
theorem cfg0_at(w:World):CfgAt w cfg0:=⟨Sl.nil_ _ (by decide),Sl.nil_ _ (by decide),Sl.nil_ _ (by decide)⟩
def zeroNB(nm:ByteArray):List (ByteArray × List UInt8):=[(⟨#[115,99,104,101,109,97]⟩,schB [⟨nm,1⟩] cfg0),(⟨#[114,111,119,115]⟩,le 0 4),(⟨#[100,105,99,116,46,48]⟩,dBytes 1 []),(⟨#[102,111,114,119,97,114,100,46,48]⟩,idxB 0 0 1 [])]
theorem name_zero(pre:ByteArray)(x:ByteArray)(h:x.data.toList=pre.data.toList++[46,48]):nameG pre 0=x:=by
 apply ByteArray.ext;apply Array.toList_inj.1;rw [nameG_list,Lib.decDigits_one (by decide),h];rfl
theorem img_zero(nm:ByteArray):imgG [⟨nm,1⟩] cfg0 []=zeroNB nm:=by
 have h1:nameG sDict 0=⟨#[100,105,99,116,46,48]⟩:=name_zero _ _ rfl;have h2:nameG sFwd 0=⟨#[102,111,114,119,97,114,100,46,48]⟩:=name_zero _ _ rfl;have h3:dOwn []=[]:=List.length_eq_zero_iff.1 (Nat.le_zero.1 (dOwn_len []));have h4:colV [] 0=[]:=rfl;have h5:colG [⟨nm,1⟩] cfg0 [] 0=[(nameG sDict 0,dBytes 1 (dOwn [])),(nameG sFwd 0,idxB 0 (dOwn []).length (wdF (dOwn []).length) (packB (idsOf []) (wdF (dOwn []).length)))]:=rfl;show [(⟨#[115,99,104,101,109,97]⟩,schB [⟨nm,1⟩] cfg0),(⟨#[114,111,119,115]⟩,le 0 4)]++(List.range 1).flatMap (colG [⟨nm,1⟩] cfg0 [])++[]=_;rw [List.range_one,List.flatMap_cons,List.flatMap_nil,h5,h1,h2,h3];rfl
theorem name_a:NameP ⟨#[97]⟩:=⟨by decide,by decide,by decide⟩
theorem fits_zero:Fits [⟨⟨#[97]⟩,1⟩] cfg0 where
 may:=⟨fun i h=>by
  match i,h with
  | 0,_=>exact name_a,fun i h=>by
  match i,h with
  | 0,_=>exact (by decide:(1:Int)≤1∧(1:Int)≤3),fun i k h hk=>by simp at h;omega,by simp,by simp⟩
 sort:=.inl rfl
 inv:=⟨.inl rfl,fun i h=>by simp [cfg0] at h⟩
 rng:=⟨.inl rfl,fun i h=>by simp [cfg0] at h⟩
 split:=fun i h=>absurd h (Nat.not_lt_zero _)
 one:=fun i k h=>absurd h (Nat.not_lt_zero _)
 few:=by decide
 lo:=by decide
 hi:=by decide
theorem build_zero(nm:ByteArray)(A B:Option Addr)(n m:Nat)(w:World)(h:Sl w 2 Col.cells A n [⟨nm,1⟩])(hf:Fits [⟨nm,1⟩] cfg0)(htab:TabP w)(htb:Tab w) :
 Calls Tryz.prog 9 #[.slice A 1 n,.agg #[.int .i64 (-1),.slice none 0 0,.slice none 0 0,.slice none 0 0,.int .i64 1],.slice none 0 0] w fun e w'=>∃ v S,e=.returned (.tuple #[v,.int .i64 0])∧S.map nbS=zeroNB nm∧SecsP S∧OwnB w' w.heap.size v (imageB S)∧Keep w w':=by
 have he:tErr [⟨nm,1⟩] ([].map fun r:Rw=>r.vs)=0:=by
  unfold tErr;rw [pB_yes hf.may];rfl
 have hs:sortF cfg0.sort ([].map fun r:Rw=>r.vs)=[]:=rfl;have hsec:∀ S:List Sec,S.map nbS=imgG [⟨nm,1⟩] cfg0 (sortF cfg0.sort ([].map fun r:Rw=>r.vs))→SecsP S:=fun S hS=>by
  rw [hs] at hS;exact img_secs hf (fun p hp=>by
   have:p=0:=by simpa using hp
   subst this;exact col_err he hp) (by decide) hS
 have:=build_any [⟨nm,1⟩] cfg0 A none n 0 [] w h hf (cfg0_at w) (fun bb off e=>by cases e) (fun bb off e=>by cases e) (Sl.nil_ _ (by decide)) (fun _ h=>by cases h) (by decide) (fun _ h=>by cases h) he htab htb hsec;refine this.mono ?_;rintro e w1 ⟨v,S,rfl,hnb,hsp,hov,hk⟩;rw [hs,img_zero] at hnb;exact ⟨v,S,rfl,hnb,hsp,hov,hk⟩
theorem known22_any(w:World)(htab:TabP w)(htb:Tab w):Calls Tryz.prog 7 #[] w fun e w'=>e=.returned (.bool true)∧Keep w w':=by
 go_enter Tryz.func7,Tryz.ntmps7;go_wp2_with (go_at_call 9;refine hold ?_);refine unhold ?_;have hsl:Sl (w.alloc (.cells #[.string ⟨#[97]⟩,.int .u8 1] 53)) 2 Col.cells (some ⟨w.heap.size,0,none⟩) 1 [⟨⟨#[97]⟩,1⟩]:=sl_one _ (by omega) (by omega) (fun j u hu=>by
  match j,hu with
  | 0,hu=>cases hu;simp [go_sem]
  | 1,hu=>cases hu;simp [go_sem])
 refine (build_zero ⟨#[97]⟩ (some ⟨w.heap.size,0,none⟩) none 1 0 _ hsl fits_zero (htab.keep (by repeat first|exact kp0|apply kp1|apply kp2|apply kp3|apply kp4)) (htb.keep (by repeat first|exact kp0|apply kp1|apply kp2|apply kp3|apply kp4))).mono ?_;rintro e w1 ⟨v,S,rfl,hnb,hsp,hov,hk⟩;have hlen:(imageB S).length≤140737488355328:=by
  have:=secs_len S hsp.at_;have h4:S.length=4:=by simpa [zeroNB] using congrArg List.length hnb
  rw [h4] at this;simp only [imageB,List.length_append,le_len,List.length_cons,List.length_nil];omega
 obtain ⟨A1,c1,rfl,hs1⟩:=hov.sl b8_len hlen;have HS1:=lh hs1;have HNB:=lh hnb;have HSP:=lh hsp;have HK1:=lh (show Keep w w1 from Keep.trans (Keep.alloc (Keep.refl _) _) hk);clear hnb hsp hov hk hs1 hsl hlen;go_wp2_with (go_at_call 12;refine hold ?_);refine unhold ?_;refine (rread_any A1 c1 S (imageB S) _ rfl HS1.out HSP.out).mono ?_;rintro e w2 ⟨A2,c2,L,rfl,hsl2,hsa2,hnb2,hk2⟩;rw [HNB.out] at hnb2;have hl:L.length=4:=by simpa [zeroNB] using congrArg List.length hnb2
 match L,hl with
 | [a,b,c,d],_ =>
   obtain ⟨na,Aa,ca,ba⟩:=a;obtain ⟨nb,Ab,cb,bb⟩:=b;obtain ⟨nc,Ac,cc,bc⟩:=c;obtain ⟨nd,Ad,cd,bd⟩:=d;simp only [List.map_cons,List.map_nil,nbS,zeroNB,List.cons.injEq,Prod.mk.injEq,and_true] at hnb2;obtain ⟨⟨rfl,rfl⟩,⟨rfl,rfl⟩,⟨rfl,rfl⟩,rfl,rfl⟩:=hnb2;have hb:=hsa2 ⟨⟨#[114,111,119,115]⟩,Ab,cb,le 0 4⟩ (by simp);have hcv:(convert 31 9 (.slice Ab (le 0 4).length cb)).run Tryz.prog w2=.ok (.string ⟨#[0,0,0,0]⟩) w2:=strB hb;obtain ⟨bL,off,hA,hbL,c0,c1'⟩:=sl_sec hsl2 0 (by simp);subst hA;obtain ⟨b1,o1,hA1,_,c2',c3⟩:=sl_sec hsl2 1 (by simp);injection hA1 with hA1;injection hA1 with e1 e2;subst e1;subst e2;obtain ⟨b1,o1,hA1,_,c4,c5⟩:=sl_sec hsl2 2 (by simp);injection hA1 with hA1;injection hA1 with e1 e2;subst e1;subst e2;obtain ⟨b1,o1,hA1,_,c6,c7⟩:=sl_sec hsl2 3 (by simp);injection hA1 with hA1;injection hA1 with e1 e2;subst e1;subst e2;simp only [List.getElem_cons_zero,List.getElem_cons_succ,Nat.zero_mul,Nat.add_zero,Nat.one_mul] at c0 c2' c3 c4 c6;have HK2:=lh (HK1.out.trans hk2);clear hk2 hb hsa2 c1' c5 c7 hsl2;go_wp2;go_ret;exact ⟨rfl,HK2.out⟩
end Go.Proofs.YtpkocnpamcchcaaGreatDoor
