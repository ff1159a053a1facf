/- Parts of the proof. -/
import Derived.Deep.DeepCutAuto
import Derived.Test.YtpkocnpamcchcaaGreatDoorK43
set_option maxRecDepth 100000
set_option maxHeartbeats 4000000
set_option linter.unusedSimpArgs false
set_option linter.unusedVariables false
set_option linter.unnecessarySimpa false
namespace Go.Proofs.YtpkocnpamcchcaaGreatDoor
open Go.RowKit Go.Zone Go.Shelf
attribute [local go_sem] zone stepZ fill lookFs goes goesUpon dropFs cell_gro frozen_gro size_gro lt_add drew_gro tape_gro keep_refl
theorem oddTo_no{cs:List Col}{r:List Val}:∀ {k:Nat},oddTo cs r k=false→∀ i,i<k→(r.getD i default).k=kindT (cs.getD i default):=fun {k} h i hi=>by
 unfold oddTo at h;have:=List.any_eq_false.1 h i (List.mem_range.2 hi)
 simpa using this
theorem terr_ok{cs:List Col}{rows:List (List Val)}(h:tErr cs rows=0):MayP cs∧∀ r∈rows,r.length=cs.length∧(∀ x∈r,noMay x=false)∧∀ i,i<r.length→(r.getD i default).k=kindT (cs.getD i default):=by
 unfold tErr at h
 split at h
 ·cases h
 ·rename_i hm
  split at h
  ·cases h
  ·rename_i hb
   split at h
   ·cases h
   ·split at h
    ·cases h
    ·rename_i ho;refine ⟨pB_iff.1 (by simpa using hm),fun r hr=>?_⟩;have hb2:badRow cs r=false:=by
      cases hq:badRow cs r
      ·rfl
      ·exact absurd (List.any_eq_true.2 ⟨r,hr,hq⟩) hb
     have ho2:oddRow cs r=false:=by
      cases hq:oddRow cs r
      ·rfl
      ·exact absurd (List.any_eq_true.2 ⟨r,hr,hq⟩) ho
     unfold badRow at hb2;rw [Bool.or_eq_false_iff] at hb2;refine ⟨by simpa using hb2.1,fun x hx=>?_,oddTo_no ho2⟩;have:=List.any_eq_false.1 hb2.2 x hx
     simpa using this
theorem derr_zero{kind:Int}{xs:List Val}(hk:kind=1∨kind=2)(h:∀ x∈xs,noMay x=false∧x.k=kind):dErr kind xs=0:=by
 unfold dErr;rw [if_neg (by rcases hk with e|e<;>(subst e;decide)),if_neg,if_neg]
 ·intro ha;obtain ⟨x,hx,hn⟩:=List.any_eq_true.1 ha;have:=(h x (((dOwn_sorted xs).2 x).1 hx)).2;simp [this] at hn
 ·intro ha;obtain ⟨x,hx,hn⟩:=List.any_eq_true.1 ha;rw [(h x hx).1] at hn
  cases hn
theorem col_ok{cs:List Col}{rows:List (List Val)}(h:tErr cs rows=0){p:Nat}(hp:p<cs.length):∀ x∈colV rows p,noMay x=false∧x.k=kindT cs[p]:=fun x hx=>by
 obtain ⟨r,hr,rfl⟩:=List.mem_map.1 hx;obtain ⟨h1,h2,h3⟩:=(terr_ok h).2 r hr;have hpr:p<r.length:=by omega
 have h4:=h3 p hpr;have e1:r.getD p zeroVal=r[p]:=by rw [List.getD_eq_getElem?_getD,List.getElem?_eq_getElem hpr];rfl
 have e2:r.getD p default=r[p]:=by rw [List.getD_eq_getElem?_getD,List.getElem?_eq_getElem hpr];rfl
 have e3:cs.getD p default=cs[p]:=by rw [List.getD_eq_getElem?_getD,List.getElem?_eq_getElem hp];rfl
 rw [e2,e3] at h4;rw [e1];exact ⟨h2 _ (List.getElem_mem hpr),h4⟩
theorem kindT_or(c:Col):kindT c=1∨kindT c=2:=by unfold kindT;split<;>simp
theorem col_err{cs:List Col}{rows:List (List Val)}(h:tErr cs rows=0){p:Nat}(hp:p<cs.length):dErr (kindT cs[p]) (colV rows p)=0:=derr_zero (kindT_or _) (col_ok h hp)
theorem sortF_mem(s:Int)(rows:List (List Val))(r:List Val):r∈sortF s rows↔r∈rows:=by
 unfold sortF
 split
 ·exact Sym.ssort_mem (ordL s.toNat) rows r
 ·exact Iff.rfl
theorem sortF_len(s:Int)(rows:List (List Val)):(sortF s rows).length=rows.length:=by
 unfold sortF
 split
 ·exact Sym.ssort_len rows
 ·rfl
theorem colV_mem(s:Int)(rows:List (List Val))(p:Nat)(x:Val):x∈colV (sortF s rows) p↔x∈colV rows p:=by
 unfold colV;simp only [List.mem_map];constructor
 ·rintro ⟨r,hr,e⟩;exact ⟨r,(sortF_mem s rows r).1 hr,e⟩
 ·rintro ⟨r,hr,e⟩;exact ⟨r,(sortF_mem s rows r).2 hr,e⟩
theorem terr_sort{cs:List Col}{rows:List (List Val)}(s:Int)(h:tErr cs rows=0)(p:Nat)(hp:p<cs.length):dErr (kindT cs[p]) (colV (sortF s rows) p)=0:=derr_zero (kindT_or _) fun x hx=>col_ok h hp x ((colV_mem s rows p x).1 hx)
theorem flat_le'{α:Type}(f:α→List UInt8)(n:Nat):∀ (l:List α),(∀ x∈l,(f x).length≤n)→(l.flatMap f).length≤l.length*n
 | [],_=>by simp
 | a :: l,h=>by
   have h1:=h a (by simp);have h2:=flat_le' f n l fun x hx=>h x (by simp [hx]);rw [List.flatMap_cons,List.length_append,List.length_cons,Nat.add_mul];omega
theorem schB_len{cs:List Col}{c:Cfg}(hf:Fits cs c):(schB cs c).length≤9+67*cs.length+2*c.split.length:=by
 have h1:(cs.flatMap colB).length≤cs.length*66:=flat_le' colB 66 cs fun x hx=>by
  obtain ⟨i,hi,rfl⟩:=List.getElem_of_mem hx;have:=(hf.may.name i hi).hi;have h2:cs[i].name.data.size=cs[i].name.size:=rfl;simp [colB];omega
 have h2:((List.range cs.length).flatMap (flagB c)).length≤cs.length*1:=by
  have:=flat_le' (flagB c) 1 (List.range cs.length) fun x _=>by simp [flagB]
  rwa [List.length_range] at this
 have h3:(c.split.flatMap (fun x=>le x.toNat 2)).length≤c.split.length*2:=flat_le' _ 2 _ fun x _=>by simp [le_len]
 unfold schB;simp only [List.length_append,le_len,List.length_cons,List.length_nil];omega
theorem flatN{α:Type}(f:α→List UInt8)(n:Nat):∀ (l:List α),(∀ x∈l,(f x).length=n)→(l.flatMap f).length=l.length*n
 | [],_=>by simp
 | a :: l,h=>by
   rw [List.flatMap_cons,List.length_append,h a (by simp),flatN f n l fun x hx=>h x (by simp [hx]),List.length_cons,Nat.add_mul];omega
theorem recB_len(k m:Nat)(x:Star.SR)(hi:k≤x.ids.length)(hm:x.sums.length=m):(recB k x).length=4*k+8+24*m:=by
 unfold recB;rw [List.length_append,List.length_append,flatN (fun id=>leI (wrap64 (id+1)) 4) 4 _ (fun _ _=>leI_len _ _),leI_len,flatN (fun s:SM=>leI s.1 8++leI s.2.1 8++leI s.2.2 8) 24 _ (fun s _=>by simp [leI_len]),hm,List.length_take];omega
theorem nodeB_len(x:Star.SN):(nodeB x).length=13+8*x.kids.length:=by
 unfold nodeB;rw [List.length_append,flatN (fun q:Int × Nat=>leI (wrap64 (q.1+1)) 4++leI q.2 4) 8 _ (fun s _=>by simp [leI_len])];simp only [List.length_append,leI_len];omega
theorem nodesB_len:∀ (l:List Star.SN),(l.flatMap nodeB).length=Star.wN l
 | []=>by simp [Star.wN]
 | a :: l=>by rw [List.flatMap_cons,List.length_append,nodeB_len,nodesB_len l,Star.wN_cons]
theorem treeB_len(k m:Nat)(P:List Star.SR)(N:List Star.SN)(hW:Star.Wide 8 m P)(hk:k≤8):(treeB k m P N).length=11+P.length*(4*k+8+24*m)+Star.wN N:=by
 unfold treeB;simp only [List.length_append,leI_len,nodesB_len];rw [flatN (recB k) (4*k+8+24*m) P fun x hx=>recB_len k m x (by rw [(hW x hx).1];exact hk) (hW x hx).2];omega
theorem src_wide(sp mt:List Ir)(R:Nat)(h8:sp.length≤8):Star.Wide 8 mt.length (srcF sp mt R):=fun x hx=>by
 obtain ⟨y,_,rfl⟩:=List.mem_map.1 hx;exact ⟨by simp only [recI];exact rowsJ_len sp y sp.length (Nat.le_refl _) h8,by simp [recI,sumJ]⟩
theorem tree_fits(leaf R:Nat)(sp mt:List Ir)(hl:1≤leaf)(h8:sp.length≤8) :
 (treeB sp.length mt.length (Star.growF leaf sp.length 0 0 (Star.togF (srcF sp mt R)).length false (Star.togF (srcF sp mt R)) 0).1 (Star.growF leaf sp.length 0 0 (Star.togF (srcF sp mt R)).length false (Star.togF (srcF sp mt R)) 0).2).length≤24+(sp.length+1)*R*(4*sp.length+8+24*mt.length+21*(sp.length+1)):=by
 have hW:=Star.togF_wide (src_wide sp mt R h8);have hT:=Star.togF_len (srcF sp mt R);have hsl:(srcF sp mt R).length=R:=by simp [srcF]
 rw [hsl] at hT;generalize Star.togF (srcF sp mt R)=rs at hW hT ⊢;have ha:=Star.grow_adds leaf 8 mt.length hl sp.length 0 0 rs.length rs 0 (Nat.zero_le _) (Nat.le_refl _);obtain ⟨x,hx,hxl⟩:=ha.pre;rw [treeB_len _ _ _ _ (ha.wide hW) h8,hx,List.length_append];have hw:=ha.wt;have hs:=Star.sumU_le sp.length;generalize sp.length=k at *;generalize mt.length=m at *;generalize Star.wN _=wn at hw ⊢;rw [Nat.sub_zero] at hxl hw;have h1:rs.length*k≤R*k:=Nat.mul_le_mul_right _ hT;have h2:rs.length*Star.sumU k≤R*((k+1)*(k+1)):=Nat.mul_le_mul hT (by omega);have h3:rs.length+x.length≤(k+1)*R:=by rw [Nat.add_mul,Nat.mul_comm k R];omega
 have h4:(rs.length+x.length)*(4*k+8+24*m)≤(k+1)*R*(4*k+8+24*m):=Nat.mul_le_mul_right _ h3;have h5:(k+1)*R*(4*k+8+24*m+21*(k+1))=(k+1)*R*(4*k+8+24*m)+21*(R*((k+1)*(k+1))):=by
  rw [Nat.mul_add]
  congr 1
  rw [Nat.mul_comm (k+1) R,Nat.mul_assoc R,← Nat.mul_assoc (k+1) 21,Nat.mul_comm (k+1) 21,Nat.mul_assoc 21,← Nat.mul_assoc R 21,Nat.mul_comm R 21,Nat.mul_assoc]
 omega
def sMet:ByteArray:=⟨#[109,101,116,114,105,99,46]⟩
def colG(cs:List Col)(c:Cfg)(rows:List (List Val))(j:Nat):List (ByteArray × List UInt8) :=
 if dimP cs (j:Int) then dimG (kindT (cs.getD j default)) j rows.length (colV rows j) (hasP c.inv (j:Int)) (hasP c.rng (j:Int)) (c.sort==(j:Int)) else [(sMet++itoaS j,metF (numsV (colV rows j)))]
def metsG(cs:List Col)(rows:List (List Val))(i:Nat):List (List Int):=((List.range i).filter fun j:Nat=>!dimP cs (j:Int)).map fun j=>numsV (colV rows j)
structure BSt(W:World)(base b gi gq nc:Nat)(mk:Value→Value→List Value)(cs:List Col)(c:Cfg)(rows:List (List Val))(S0:List (ByteArray × List UInt8))(i:Nat)(o M:Value)(S:List Sec)(MT:List Ir)(vi vq:List Value):Prop where
 row:Row W b 77 (mk o M)
 ri:Row W gi 24 vi
 rq:Row W gq 3 vq
 li:vi.length=nc
 lq:vq.length=nc
 sec:OwnC W base o S
 so:SecsO W S
 mt:OwnMt W base M MT
 mr:∀ r∈MT,OwnI6 W base r
 mx:(MT.map fun r=>r.xs)=metsG cs rows i
 nb:S.map nbS=S0++(List.range i).flatMap (colG cs c rows)
 dims:∀ j:Nat,j<i→dimP cs (j:Int)=true→∃ g cc,vi[j]? =some (.slice (some ⟨g,0,none⟩) rows.length cc)∧Own W base 3 1 n64V (.slice (some ⟨g,0,none⟩) rows.length cc) (idsOf (colV rows j))∧vq[j]? =some (.int .i64 (dOwn (colV rows j)).length)
section
variable {W W':World} {base b gi gq nc:Nat} {mk:Value→Value→List Value} {cs:List Col} {c:Cfg} {rows:List (List Val)} {S0:List (ByteArray × List UInt8)} {i:Nat} {o M:Value} {S:List Sec} {MT:List Ir} {vi vq:List Value}
theorem BSt.keep(h:BSt W base b gi gq nc mk cs c rows S0 i o M S MT vi vq)(hk:Keep W W'):BSt W' base b gi gq nc mk cs c rows S0 i o M S MT vi vq :=
 ⟨h.row.keep hk,h.ri.keep hk,h.rq.keep hk,h.li,h.lq,h.sec.keep hk,h.so.keep hk,h.mt.keep hk,fun r hr=>(h.mr r hr).keep hk,h.mx,h.nb,fun j hj hd=>by
  obtain ⟨g,cc,h1,h2,h3⟩:=h.dims j hj hd;exact ⟨g,cc,h1,h2.keep hk,h3⟩⟩
theorem rng_flat{β:Type}(f:Nat→List β)(i:Nat):(List.range (i+1)).flatMap f=(List.range i).flatMap f++f i:=by
 rw [List.range_succ,List.flatMap_append];simp
theorem mets_dim(i:Nat)(hd:dimP cs (i:Int)=true):metsG cs rows (i+1)=metsG cs rows i:=by
 unfold metsG;rw [List.range_succ,List.filter_append];simp [hd]
theorem mets_met(i:Nat)(hd:dimP cs (i:Int)=false):metsG cs rows (i+1)=metsG cs rows i++[numsV (colV rows i)]:=by
 unfold metsG;rw [List.range_succ,List.filter_append];simp [hd]
theorem flat_leN{β:Type}(f:Nat→List β)(n:Nat):∀ (l:List Nat),(∀ x∈l,(f x).length≤n)→(l.flatMap f).length≤l.length*n
 | [],_=>by simp
 | a :: l,h=>by
   have h1:=h a (by simp);have h2:=flat_leN f n l fun x hx=>h x (by simp [hx]);rw [List.flatMap_cons,List.length_append,List.length_cons,Nat.add_mul];omega
theorem colG_len(j:Nat):(colG cs c rows j).length≤5:=by
 unfold colG
 split
 ·unfold dimG;simp only [List.length_append,List.length_cons,List.length_nil]
  split<;>split<;>split<;>simp
 ·simp
theorem BSt.few(h:BSt W base b gi gq nc mk cs c rows S0 i o M S MT vi vq):S.length≤S0.length+5*i∧MT.length≤i:=by
 have h1:=congrArg List.length h.nb;have h2:=flat_leN (colG cs c rows) 5 (List.range i) fun x _=>colG_len x;rw [List.length_map,List.length_append] at h1;rw [List.length_range] at h2;have h3:=congrArg List.length h.mx;unfold metsG at h3;rw [List.length_map,List.length_map] at h3;have h4:=List.length_filter_le (fun j:Nat=>!dimP cs (j:Int)) (List.range i);rw [List.length_range] at h4;omega
theorem BSt.number(h:BSt W base b gi gq nc mk cs c rows S0 i o M S MT vi vq)(hd:dimP cs (i:Int)=false){o' M':Value}{A:Option Addr}{cc:Nat}{rr:Ir}(hrow:Row W' b 77 (mk o' M'))(hsec:OwnC W' base o' (S++[⟨sMet++itoaS i,A,cc,metF (numsV (colV rows i))⟩]))(hso:SecsO W' (S++[⟨sMet++itoaS i,A,cc,metF (numsV (colV rows i))⟩]))
 (hmt:OwnMt W' base M' (MT++[rr])) (hmr:∀ r∈MT++[rr],OwnI6 W' base r) (hrr:rr.xs=numsV (colV rows i)) (ht:Turn W W' (b :: (o.ownBlock.toList++M.ownBlock.toList))) :
 BSt W' base b gi gq nc mk cs c rows S0 (i+1) o' M' (S++[⟨sMet++itoaS i,A,cc,metF (numsV (colV rows i))⟩]) (MT++[rr]) vi vq:=by
 have hm:∀ q,q∈b :: (o.ownBlock.toList++M.ownBlock.toList)→q=b∨o.ownBlock=some q∨M.ownBlock=some q:=fun q hq=>by simpa using hq
 have hg:∀ {g:Nat} {T:TypeId} {vs:List Value},Row W g T vs→T≠77→T≠68→T≠54→Row W' g T vs:=fun {g T vs} hr h1 h2 h3=>ht.row hr fun hq=>by
  rcases hm g hq with e|e|e
  ·subst e;exact row_ne hr h.row h1 rfl
  ·exact own_row_ne h.sec hr h2 e
  ·exact own_row_ne h.mt hr h3 e
 refine ⟨hrow,hg h.ri (by decide) (by decide) (by decide),hg h.rq (by decide) (by decide) (by decide),h.li,h.lq,hsec,hso,hmt,hmr,?_,?_,fun j hj hdj=>?_⟩
 ·rw [List.map_append,h.mx,mets_met i hd,← hrr];rfl
 ·rw [List.map_append,h.nb,rng_flat,List.append_assoc]
  congr 2
  unfold colG;rw [if_neg (by rw [hd];decide)];rfl
 ·have hji:j≠i:=fun e=>by subst e;rw [hd] at hdj;cases hdj
  obtain ⟨g,cc',h1,h2,h3⟩:=h.dims j (by omega) hdj;refine ⟨g,cc',h1,h2.turn ht fun q hq e=>?_,h3⟩
  rcases hm q hq with e2|e2|e2
  ·subst e2;exact own_row_ne h2 h.row (by decide) e
  ·exact own_own_ne h.sec h2 (by decide) q e2 e
  ·exact own_own_ne h.mt h2 (by decide) q e2 e
theorem BSt.dim(h:BSt W base b gi gq nc mk cs c rows S0 i o M S MT vi vq)(hd:dimP cs (i:Int)=true)(hin:i<nc)(hgi:gi<base)(hgq:gq<base)(hbw:base≤W.heap.size){o' X':Value}{S':List Sec}{g cc:Nat}(hrow:Row W' b 77 (mk o' M))(hri:Row W' gi 24 (vi.set i X'))(hX:X'=.slice (some ⟨g,0,none⟩) rows.length cc)(hXo:Own W' W.heap.size 3 1 n64V X' (idsOf (colV rows i)))
 (hrq:Row W' gq 3 (vq.set i (.int .i64 (dOwn (colV rows i)).length))) (hsec:OwnC W' base o' S') (hso:SecsO W' S') (hnb:S'.map nbS=S.map nbS++dimG (kindT (cs.getD i default)) i rows.length (colV rows i) (hasP c.inv (i:Int)) (hasP c.rng (i:Int)) (c.sort==(i:Int))) (ht:Turn W W' (b :: gi :: gq :: o.ownBlock.toList)) :
 BSt W' base b gi gq nc mk cs c rows S0 (i+1) o' M S' MT (vi.set i X') (vq.set i (.int .i64 (dOwn (colV rows i)).length)):=by
 have hm:∀ q,q∈b :: gi :: gq :: o.ownBlock.toList→q=b∨q=gi∨q=gq∨o.ownBlock=some q:=fun q hq=>by simpa using hq
 have hk:∀ {α:Type} {bb kk:Nat} {e:TypeId} {enc:α→List Value} {v:Value} {xs:List α},Own W bb e kk enc v xs→e≠77→e≠24→e≠3→e≠68→Own W' bb e kk enc v xs:=fun ho h1 h2 h3 h4=>ho.turn ht fun q hq e=>by
  rcases hm q hq with e2|e2|e2|e2
  ·subst e2;exact own_row_ne ho h.row (Ne.symm h1) e
  ·subst e2;exact own_row_ne ho h.ri (Ne.symm h2) e
  ·subst e2;exact own_row_ne ho h.rq (Ne.symm h3) e
  ·exact own_own_ne h.sec ho (Ne.symm h4) q e2 e
 refine ⟨hrow,hri,hrq,by rw [List.length_set];exact h.li,by rw [List.length_set];exact h.lq,hsec,hso,hk h.mt (by decide) (by decide) (by decide) (by decide),fun r hr=>hk (h.mr r hr) (by decide) (by decide) (by decide) (by decide),?_,?_,fun j hj hdj=>?_⟩
 ·rw [h.mx,mets_dim i hd]
 ·rw [hnb,h.nb,rng_flat,List.append_assoc]
  congr 2
  unfold colG;rw [if_pos hd]
 ·rcases Nat.lt_or_ge j i with hji|hji
  ·obtain ⟨g',cc',h1,h2,h3⟩:=h.dims j hji hdj;refine ⟨g',cc',by rw [List.getElem?_set_ne (by omega)];exact h1,h2.turn ht fun q hq e=>?_,by rw [List.getElem?_set_ne (by omega)];exact h3⟩;have hlo:=(h2.lt q e).1
   rcases hm q hq with e2|e2|e2|e2
   ·subst e2;exact own_row_ne h2 h.row (by decide) e
   ·omega
   ·omega
   ·exact own_own_ne h.sec h2 (by decide) q e2 e
  ·have hji:j=i:=by omega
   subst hji;refine ⟨g,cc,by rw [List.getElem?_set_self (by rw [h.li];exact hin),hX],?_,by rw [List.getElem?_set_self (by rw [h.lq];exact hin)]⟩;rw [← hX];exact hXo.base_mono hbw
end
end Go.Proofs.YtpkocnpamcchcaaGreatDoor
namespace Go.Zone
open Go.RowKit
section
variable {P:Program} {ops:Array Oper} {md:Region.Mode} {Q:Exit→Act→World→Prop}
def backB(md:Region.Mode)(ops:Array Oper):Bool :=
 (List.range ops.size).all fun i=>((ops[i]?).map fun o=>o.after.all fun e=>!Region.binds md e||decide (e.on<i)).getD true
theorem getD_true_of{listed:Array Bool}{i:Nat}(hi:i<listed.size)(h:listed.getD i false≠true):listed.getD i true=false:=by
 simp only [Array.getD_eq_getD_getElem?,Array.getElem?_eq_getElem hi,Option.getD_some] at h ⊢
 simpa using h
theorem getD_flip{listed:Array Bool}{i:Nat}(h:listed.getD i true=false):listed.getD i false=false:=by
 rcases Nat.lt_or_ge i listed.size with hi|hi
 ·simpa only [Array.getD_eq_getD_getElem?,Array.getElem?_eq_getElem hi,Option.getD_some] using h
 ·simp only [Array.getD_eq_getD_getElem?,Array.getElem?_eq_none hi,Option.getD_none] at h
  cases h
theorem getD_listed{listed:Array Bool}{i j:Nat}(hi:i<listed.size):(listed.setIfInBounds i true).getD j false=if i=j then true else listed.getD j false:=by
 simp only [Array.getD_eq_getD_getElem?,Array.getElem?_setIfInBounds]
 by_cases h:i=j
 ·subst h;simp [hi]
 ·simp [h]
theorem ready_none(hb:backB md ops=true){listed:Array Bool}(hs:listed.size=ops.size)(h:Region.ready md ops listed=[]):∀ i,i<ops.size→listed.getD i false=true:=by
 intro i
 induction i using Nat.strongRecOn with
 | _ i ih =>
   intro hi
   by_cases hl:listed.getD i false=true
   ·exact hl
   ·have h1:i∈Region.ready md ops listed:=mem_ready.2 ⟨getD_true_of (by omega) hl,ops[i],Array.getElem?_eq_getElem hi,fun e he hbd=>by
       have h2:=List.all_eq_true.1 hb i (List.mem_range.2 hi);rw [Array.getElem?_eq_getElem hi] at h2;simp only [Option.map_some,Option.getD_some] at h2;have h3:=Array.all_eq_true_iff_forall_mem.1 h2 e he;rw [hbd] at h3;have h4:e.on<i:=by simpa using h3
       exact ih e.on h4 (by omega)⟩
    rw [h] at h1
    cases h1
theorem wpAny_inv(hb:backB md ops=true)(I:Array Bool→Act→World→Prop)
 (hstep:∀ listed a w,I listed a w→listed.size=ops.size→∀ i o,ops[i]? =some o→listed.getD i false=false→(∀ e∈o.after,Region.binds md e=true→listed.getD e.on false=true) →
   Region.wanted o (yielded ops a.tmps)=true∧((∃ v w',(execOp a.eval o).run P w=.ok (.value v) w'∧I (listed.setIfInBounds i true) (a.put o.dst v) w')∨∃ w',(execOp a.eval o).run P w=.ok .skip w'∧I (listed.setIfInBounds i true) (a.put o.dst undef) w'))
 (hend:∀ listed a w,I listed a w→listed.size=ops.size→(∀ i,i<ops.size→listed.getD i false=true)→Q .normal a w) :
 ∀ (f:Nat) (listed:Array Bool) (a:Act) (w:World),listed.toList.count false=f→listed.size=ops.size→I listed a w→wpAny P md ops Q f listed a w:=by
 intro f
 induction f with
 | zero =>
   intro listed a w hc hs hI;have hall:∀ i,i<ops.size→listed.getD i false=true:=fun i hi=>by
    have hi':i<listed.size:=by omega
    have h0:¬ (false∈listed.toList):=List.count_eq_zero.1 hc
    by_cases hx:listed.getD i false=true
    ·exact hx
    ·refine absurd ?_ h0;have:listed[i]=false:=by simpa only [Array.getD_eq_getD_getElem?,Array.getElem?_eq_getElem hi',Option.getD_some,Bool.not_eq_true] using hx
     rw [← this];simp
   refine ⟨?_,hend listed a w hI hs hall⟩;refine List.eq_nil_iff_forall_not_mem.2 fun j hj=>?_;obtain ⟨h1,o,ho,_⟩:=mem_ready.1 hj;have:=hall j (Array.getElem?_eq_some_iff.1 ho).1;rw [getD_flip h1] at this
   cases this
 | succ f ih =>
   intro listed a w hc hs hI;refine ⟨fun h=>hend listed a w hI hs (ready_none hb hs h),fun i hi=>?_⟩;obtain ⟨h1,o,ho,hall⟩:=mem_ready.1 hi;have hio:i<ops.size:=(Array.getElem?_eq_some_iff.1 ho).1;have hil:i<listed.toList.length:=by simp;omega
   obtain ⟨hw,hr⟩:=hstep listed a w hI hs i o ho (getD_flip h1) hall;have hc':(listed.setIfInBounds i true).toList.count false=f:=by
    rw [Array.toList_setIfInBounds,List.count_set hil];have h2:=getD_flip h1;simp only [Array.getD_eq_getD_getElem?,Array.getElem?_eq_getElem (show i<listed.size by omega),Option.getD_some] at h2;simp [h2,hc]
   unfold wpOp;simp only [ho,hw,if_true];refine .inl ?_;unfold Oper.wp
   rcases hr with ⟨v,w',h2,h3⟩ | ⟨w',h2,h3⟩
   ·rw [h2];exact ih _ _ _ hc' (by simpa using hs) h3
   ·rw [h2];exact ih _ _ _ hc' (by simpa using hs) h3
theorem wp_region_inv{id:Nat}{a:Act}{w:World}(hm:P.follows .mixedOrders=true)(hb:backB .any ops=true)(I:Array Bool→Act→World→Prop)
 (h0:I (Array.replicate ops.size false) a { w with drawn:=w.drawn+1 })
 (hstep:∀ listed a w,I listed a w→listed.size=ops.size→∀ i o,ops[i]? =some o→listed.getD i false=false→(∀ e∈o.after,Region.binds .any e=true→listed.getD e.on false=true) →
   Region.wanted o (yielded ops a.tmps)=true∧((∃ v w',(execOp a.eval o).run P w=.ok (.value v) w'∧I (listed.setIfInBounds i true) (a.put o.dst v) w')∨∃ w',(execOp a.eval o).run P w=.ok .skip w'∧I (listed.setIfInBounds i true) (a.put o.dst undef) w'))
 (hend:∀ listed a w,I listed a w→listed.size=ops.size→(∀ i,i<ops.size→listed.getD i false=true)→Q .normal a w):(Code.region id ops true).wp P Q a w :=
 wp_region_any hm (wpAny_inv hb I hstep hend ops.size _ a _ (by simp) (by simp) h0)
end
theorem put_at(b:Act)(d:Nat)(u:Value)(h:d<b.tmps.size):(b.put (some d) u).tmps.getD d undef=u:=by rw [getD_put b _ u d h,if_pos rfl]
theorem put_else(b:Act)(d:Nat)(u:Value)(t:Nat)(h:d≠t):(b.put (some d) u).tmps.getD t undef=b.tmps.getD t undef:=by
 simp [Act.put,Array.getElem?_setIfInBounds_ne h]
theorem getD_replicate_false'(n k:Nat):(Array.replicate n false).getD k false=false:=by
 simp only [Array.getD_eq_getD_getElem?,Array.getElem?_replicate]
 split<;>rfl
end Go.Zone
namespace Go.Proofs.YtpkocnpamcchcaaGreatDoor
open Go.RowKit Go.Zone Go.Shelf
structure Half{α:Type}(w:World)(T e:TypeId)(enc:α→List Value)(base bs:Nat)(old:Value)(xs:List α)(y:α)(l8 l9 l20:Bool)(v13 v14:Value)(W:World):Prop where
 row:l20=false→Row W bs T [old]
 a8:l8=true→∃ q,v13=.slice (some ⟨q,0,none⟩) 1 1∧w.heap.size≤q∧Row W q e (enc y)
 a9F:l9=false→Own W base e 1 enc old xs
 a9T:l9=true→∃ A' c',v14=.slice A' (xs.length+1) c'∧Own W base e 1 enc v14 (xs++[y])∧(l20=true→Row W bs T [v14])
section
variable {α:Type} {w W W':World} {T e:TypeId} {enc:α→List Value} {base bs:Nat} {old:Value} {xs:List α} {y:α} {l8 l9 l20:Bool} {v13 v14:Value}
theorem Half.turn(h:Half w T e enc base bs old xs y l8 l9 l20 v13 v14 W){S:List Nat}(ht:Turn W W' S)(hb:bs∉S)(hq:∀ i∈S,i<w.heap.size)(ho:∀ v ys,Own W base e 1 enc v ys→∀ i∈S,v.ownBlock≠some i):Half w T e enc base bs old xs y l8 l9 l20 v13 v14 W' :=
 ⟨fun hl=>ht.row (h.row hl) hb,fun hl=>by
  obtain ⟨q,h1,h2,h3⟩:=h.a8 hl;exact ⟨q,h1,h2,ht.row h3 fun hm=>by have:=hq q hm;omega⟩,fun hl=>(h.a9F hl).turn ht (ho _ _ (h.a9F hl)),fun hl=>by
  obtain ⟨A',c',h1,h2,h3⟩:=h.a9T hl;exact ⟨A',c',h1,h2.turn ht (ho _ _ h2),fun hl=>ht.row (h3 hl) hb⟩⟩
theorem Half.keep(h:Half w T e enc base bs old xs y l8 l9 l20 v13 v14 W)(hk:Keep W W'):Half w T e enc base bs old xs y l8 l9 l20 v13 v14 W' :=
 h.turn (Turn.keep hk []) (by simp) (by simp) (by simp)
theorem Half.made(h:Half w T e enc base bs old xs y l8 l9 l20 v13 v14 W)(hw:w.heap.size≤W.heap.size):Half w T e enc base bs old xs y true l9 l20 (.slice (some ⟨W.heap.size,0,none⟩) 1 1) v14 (W.alloc (.cells (enc y).toArray e)):=by
 have k:=h.keep (W':=W.alloc (.cells (enc y).toArray e)) ((Keep.refl W).alloc _);exact ⟨k.row,fun _=>⟨_,rfl,hw,row_alloc _ _ _⟩,k.a9F,k.a9T⟩
theorem Half.app(h:Half w T e enc base bs old xs y true false false v13 v14 W){P:Program}{t:TypeId}{bytes:Nat}(E:Elt P t e 1 bytes)(hk:∀ x,(enc x).length=1)(h1:∀ x,∀ u∈enc x,u.oneCell'=true)(ty:TypeId)(hlen:(xs.length+1)*bytes≤140737488355328)(hl:xs.length+1≤140737488355328)(hbase:base≤W.heap.size)(hbs:bs<base)(hob:∀ j,old.ownBlock=some j→j<w.heap.size) :
 ∃ v' W',(Builtin.append_ #[t,t] ty #[old,v13]).run P W=.ok v' W'∧W.grownBy W' old.ownBlock∧Half w T e enc base bs old xs y true true false v13 v' W':=by
 obtain ⟨q,hq1,hq2,hq3⟩:=h.a8 rfl;have ho:=h.a9F rfl;obtain ⟨v',W',hr,k2,k3,k4⟩:=run_app1 (ty:=ty) E hk h1 ho (ys:=[y]) (sl_one (g:=q) (c:=1) y (by decide) (by decide) fun j u hu=>hq3.cell j u hu) (by simpa using hlen) hbase;rw [hq1];refine ⟨v',W',hr,k3,fun _=>(Turn.of_grown k3).row (h.row rfl) ?_,fun _=>⟨q,rfl,hq2,(Turn.of_grown k3).row hq3 ?_⟩,fun hx=>(by cases hx),fun _=>?_⟩
 ·intro hm;have:=(ho.lt bs (by simpa using hm)).1;omega
 ·intro hm;have:=hob q (by simpa using hm);omega
 ·obtain ⟨A',c',e1,_⟩:=k2.sl hk (by simpa using hl);refine ⟨A',c',by simpa using e1,k2,fun hx=>(by cases hx)⟩
theorem Half.store(h:Half w T e enc base bs old xs y l8 true false v13 v14 W)(hbs:bs<base)(hbw:bs<w.heap.size):Half w T e enc base bs old xs y l8 true true v13 v14 (W.setCell ⟨bs,0,none⟩ v14):=by
 have ht:=Turn.set W ⟨bs,0,none⟩ v14;refine ⟨fun hx=>(by cases hx),fun hl=>?_,fun hx=>(by cases hx),fun _=>?_⟩
 ·obtain ⟨q,h1,h2,h3⟩:=h.a8 hl;exact ⟨q,h1,h2,ht.row h3 fun hm=>by simp at hm;omega⟩
 ·obtain ⟨A',c',h1,h2,_⟩:=h.a9T rfl;refine ⟨A',c',h1,h2.turn ht fun i hi he=>?_,fun _=>?_⟩
  ·have:=(h2.lt i he).1;simp at hi;omega
  ·have:=(h.row rfl).set 0 v14
   simpa using this
end
end Go.Proofs.YtpkocnpamcchcaaGreatDoor
