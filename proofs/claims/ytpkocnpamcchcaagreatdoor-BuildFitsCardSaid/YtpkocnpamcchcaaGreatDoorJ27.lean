/- Parts of the proof. -/
import Derived.Test.YtpkocnpamcchcaaGreatDoorJ26
set_option maxRecDepth 100000
set_option maxHeartbeats 4000000
set_option linter.unusedSimpArgs false
set_option linter.unusedVariables false
namespace Go.Star
structure SR where
 ids:List Int
 n:Int
 sums:List (Int × Int × Int)
instance:Inhabited SR:=⟨⟨[],0,[]⟩⟩
structure SN where
 depth:Nat
 lo:Nat
 hi:Nat
 kids:List (Int × Nat)
def lexL:List Int→List Int→Bool
 | [],[]=>false
 | [],_ :: _=>true
 | _ :: _,[]=>false
 | a :: r,b :: s=>decide (a<b)||(decide (a=b)&&lexL r s)
def ltR(x y:SR):Bool:=lexL x.ids y.ids
theorem lexL_irr:∀ l,lexL l l=false
 | []=>rfl
 | a :: r=>by simp [lexL,lexL_irr r]
theorem lexL_trans:∀ a b c,lexL a b=true→lexL b c=true→lexL a c=true
 | [],[],_,h,_=>by cases h
 | [],_ :: _,[],_,h=>by cases h
 | [],_ :: _,_ :: _,_,_=>rfl
 | _ :: _,[],_,h,_=>by cases h
 | _ :: _,_ :: _,[],_,h=>by cases h
 | a :: l,b :: m,c :: n,h1,h2=>by
   simp only [lexL,Bool.or_eq_true,Bool.and_eq_true,decide_eq_true_eq] at h1 h2 ⊢
   rcases h1 with h1 | ⟨rfl,h1⟩
   ·rcases h2 with h2 | ⟨rfl,h2⟩
    ·exact .inl (by omega)
    ·exact .inl h1
   ·rcases h2 with h2 | ⟨rfl,h2⟩
    ·exact .inl h2
    ·exact .inr ⟨rfl,lexL_trans l m n h1 h2⟩
theorem lexL_total:∀ a b,lexL a b=false→lexL b a=false→a=b
 | [],[],_,_=>rfl
 | [],_ :: _,h,_=>by cases h
 | _ :: _,[],_,h=>by cases h
 | a :: l,b :: m,h1,h2=>by
   simp only [lexL,Bool.or_eq_false_iff,Bool.and_eq_false_iff,decide_eq_false_iff_not] at h1 h2;have e:a=b:=by omega
   subst e
   rw [lexL_total l m (by rcases h1.2 with h|h; · exact absurd rfl h
                          ·exact h) (by rcases h2.2 with h|h; · exact absurd rfl h
                                        ·exact h)]
theorem ordS:Sym.Ord ltR:=by
 constructor
 ·intro a b h
  cases h2:ltR b a
  ·rfl
  ·have:=lexL_trans _ _ _ h h2;rw [lexL_irr] at this
   cases this
 ·intro a b c h1 h2
  cases h3:ltR c a
  ·rfl
  ·cases h4:ltR a b
   ·have e:=lexL_total _ _ h4 h1;unfold ltR at h2 h3;rw [← e,h3] at h2
    cases h2
   ·have h5:=lexL_trans _ _ _ h3 h4;unfold ltR at h2;rw [h2] at h5
    cases h5
def w64(x:Int):Int:=(x+9223372036854775808)%18446744073709551616-9223372036854775808
def addS(a b:Int × Int × Int):Int × Int × Int:=(w64 (a.1+b.1),min a.2.1 b.2.1,max a.2.2 b.2.2)
def SR.add(y x:SR):SR:=⟨y.ids,w64 (y.n+x.n),List.zipWith addS y.sums x.sums⟩
def togStep(out:List SR)(x:SR):List SR :=
 match out.getLast? with
 | none=>out++[x]
 | some y=>if y.ids=x.ids then out.dropLast++[y.add x] else out++[x]
def togF(l:List SR):List SR:=(Sym.ssort ltR l).foldl togStep []
theorem togStep_len(out:List SR)(x:SR):(togStep out x).length≤out.length+1:=by
 unfold togStep
 split
 ·simp
 ·split
  ·simp only [List.length_append,List.length_dropLast,List.length_singleton];omega
  ·simp
theorem tog_fold_len:∀ (l:List SR) (out:List SR),(l.foldl togStep out).length≤out.length+l.length
 | [],_=>Nat.le_refl _
 | x :: r,out=>by
   have h1:=tog_fold_len r (togStep out x);have h2:=togStep_len out x;simp only [List.foldl_cons,List.length_cons];omega
theorem togF_len(l:List SR):(togF l).length≤l.length:=by
 have:=tog_fold_len (Sym.ssort ltR l) [];rw [Sym.ssort_len] at this
 simpa [togF] using this
def Wide(k m:Nat)(l:List SR):Prop:=∀ x∈l,x.ids.length=k∧x.sums.length=m
theorem addW{k m:Nat}{y x:SR}(hy:y.ids.length=k∧y.sums.length=m)(hx:x.ids.length=k∧x.sums.length=m):(y.add x).ids.length=k∧(y.add x).sums.length=m:=by
 refine ⟨hy.1,?_⟩;simp [SR.add,hy.2,hx.2]
theorem togStep_wide{k m:Nat}{out:List SR}{x:SR}(h:Wide k m out)(hx:x.ids.length=k∧x.sums.length=m):Wide k m (togStep out x):=by
 intro a ha;unfold togStep at ha
 split at ha
 ·rcases List.mem_append.1 ha with ha|ha
  ·exact h a ha
  ·simp only [List.mem_singleton] at ha;subst ha;exact hx
 ·rename_i y hy;have hym:y∈out:=List.mem_of_getLast? hy
  split at ha
  ·rcases List.mem_append.1 ha with ha|ha
   ·exact h a (List.dropLast_subset _ ha)
   ·simp only [List.mem_singleton] at ha;subst ha;exact addW (h y hym) hx
  ·rcases List.mem_append.1 ha with ha|ha
   ·exact h a ha
   ·simp only [List.mem_singleton] at ha;subst ha;exact hx
theorem tog_fold_wide{k m:Nat}:∀ (l out:List SR),Wide k m out→Wide k m l→Wide k m (l.foldl togStep out)
 | [],_,h,_=>h
 | x :: r,out,h,hl=>tog_fold_wide r _ (togStep_wide h (hl x (by simp))) fun a ha=>hl a (by simp [ha])
theorem togF_wide{k m:Nat}{l:List SR}(h:Wide k m l):Wide k m (togF l) :=
 tog_fold_wide _ _ (fun _ hx=>by cases hx) fun a ha=>h a ((Sym.ssort_mem ordS l a).1 ha)
def idAt(rs:List SR)(i d:Nat):Int:=(rs.getD i default).ids.getD d 0
def endF(rs:List SR)(d:Nat)(id:Int)(tt:Nat):Nat→Nat→Nat
 | 0,e=>e
 | f+1,e=>if e<tt∧idAt rs e d=id then endF rs d id tt f (e+1) else e
theorem endF_ge(rs:List SR)(d:Nat)(id:Int)(tt:Nat):∀ f e,e≤endF rs d id tt f e
 | 0,e=>Nat.le_refl _
 | f+1,e=>by
   unfold endF
   split
   ·have:=endF_ge rs d id tt f (e+1);omega
   ·exact Nat.le_refl _
theorem endF_le(rs:List SR)(d:Nat)(id:Int)(tt:Nat):∀ f e,e≤tt→endF rs d id tt f e≤tt
 | 0,e,h=>h
 | f+1,e,h=>by
   unfold endF
   split
   ·rename_i hc;exact endF_le rs d id tt f (e+1) (by omega)
   ·exact h
theorem endF_gt(rs:List SR)(d tt at_:Nat)(h:at_<tt):at_<endF rs d (idAt rs at_ d) tt (tt-at_) at_:=by
 obtain ⟨f,hf⟩:∃ f,tt-at_=f+1:=⟨tt-at_-1,by omega⟩;rw [hf];unfold endF;rw [if_pos ⟨h,rfl⟩];have:=endF_ge rs d (idAt rs at_ d) tt f (at_+1);omega
def loopF(g:Nat→Nat→List SR→Nat→List SR × List SN)(d tt n:Nat):Nat→Nat→List (Int × Nat)→List SR→List SN→List (Int × Nat) × List SR × List SN
 | 0,_,kids,rs,ns=>(kids,rs,ns)
 | f+1,at_,kids,rs,ns =>
   if at_<tt then
    let e:=endF rs d (idAt rs at_ d) tt (tt-at_) at_
    let r:=g at_ e rs (n+1+ns.length)
    loopF g d tt n f e (kids++[(idAt rs at_ d,n+1+ns.length)]) r.1 (ns++r.2)
   else (kids,rs,ns)
def starR(d:Nat)(x:SR):SR:={ x with ids:=x.ids.set d (-1) }
def cutR(rs:List SR)(lo hi:Nat):List SR:=(rs.drop lo).take (hi-lo)
def growF(leaf:Nat):Nat→Nat→Nat→Nat→Bool→List SR→Nat→List SR × List SN
 | 0,depth,lo,hi,_,rs,_=>(rs,[⟨depth,lo,hi,[]⟩])
 | f+1,depth,lo,hi,starred,rs,n =>
   if hi-lo≤leaf then (rs,[⟨depth,lo,hi,[]⟩])
   else
    let r:=loopF (fun a e rs n=>growF leaf f (depth+1) a e starred rs n) depth hi n (hi-lo) lo [] rs []
    if starred then (r.2.1,⟨depth,lo,hi,r.1⟩ :: r.2.2)
    else
     let l:=togF ((cutR r.2.1 lo hi).map (starR depth))
     let q:=growF leaf f (depth+1) r.2.1.length (r.2.1.length+l.length) true (r.2.1++l) (n+1+r.2.2.length)
     (q.1,⟨depth,lo,hi,r.1++[(-1,n+1+r.2.2.length)]⟩ :: (r.2.2++q.2))
def wN(ns:List SN):Nat:=(ns.map fun x=>13+8*x.kids.length).sum
theorem wN_app(a b:List SN):wN (a++b)=wN a+wN b:=by simp [wN]
theorem wN_cons(x:SN)(b:List SN):wN (x :: b)=13+8*x.kids.length+wN b:=by simp [wN]
def sumU:Nat→Nat
 | 0=>0
 | f+1=>sumU f+f+2
theorem sumU_le:∀ f,sumU f+1≤(f+1)*(f+1)
 | 0=>by decide
 | f+1=>by
   have:=sumU_le f;have e:(f+1+1)*(f+1+1)=(f+1)*(f+1)+2*(f+1)+1:=by
    rw [Nat.add_mul,Nat.mul_add,Nat.mul_add];omega
   unfold sumU;omega
structure Adds(rs:List SR)(r:List SR × List SN)(k m a b:Nat):Prop where
 pre:∃ x,r.1=rs++x∧x.length≤a
 wide:Wide k m rs→Wide k m r.1
 wt:wN r.2≤b
theorem loop_adds{g:Nat→Nat→List SR→Nat→List SR × List SN}{d tt n k m A B:Nat}(hg:∀ lo hi rs n,lo<hi→hi≤tt→tt≤rs.length→Adds rs (g lo hi rs n) k m ((hi-lo)*A) (13+21*((hi-lo)*B))) :
 ∀ (f at_:Nat) (kids:List (Int × Nat)) (rs:List SR) (ns:List SN),at_≤tt→tt≤rs.length→(loopF g d tt n f at_ kids rs ns).1.length≤kids.length+(tt-at_)∧8*(loopF g d tt n f at_ kids rs ns).1.length+wN (loopF g d tt n f at_ kids rs ns).2.2≤8*kids.length+wN ns+21*((tt-at_)*(B+1))∧(∃ x,(loopF g d tt n f at_ kids rs ns).2.1=rs++x∧x.length≤(tt-at_)*A)∧(Wide k m rs→Wide k m (loopF g d tt n f at_ kids rs ns).2.1)
 | 0,at_,kids,rs,ns,_,_=>⟨by simp [loopF],by simp [loopF],⟨[],by simp [loopF],by simp⟩,id⟩
 | f+1,at_,kids,rs,ns,h1,h2=>by
   unfold loopF
   split
   ·rename_i hlt;simp only [];obtain ⟨e,he⟩:∃ e,e=endF rs d (idAt rs at_ d) tt (tt-at_) at_:=⟨_,rfl⟩;have e1:at_<e:=he ▸ endF_gt rs d tt at_ hlt;have e2:e≤tt:=he ▸ endF_le rs d _ tt _ at_ h1;rw [← he];have ha:=hg at_ e rs (n+1+ns.length) e1 e2 h2;generalize g at_ e rs (n+1+ns.length)=r at ha ⊢;obtain ⟨x,hx,hxl⟩:=ha.pre;have hlen:tt≤r.1.length:=by rw [hx];simp;omega
    obtain ⟨i0,i1,⟨y,hy,hyl⟩,i3⟩:=loop_adds hg f e (kids++[(idAt rs at_ d,n+1+ns.length)]) r.1 (ns++r.2) e2 hlen;generalize loopF g d tt n f e (kids++[(idAt rs at_ d,n+1+ns.length)]) r.1 (ns++r.2)=q at i0 i1 hy i3 ⊢;have hw:=ha.wt;rw [wN_app] at i1;simp only [List.length_append,List.length_cons,List.length_nil] at i0 i1;have hm:(tt-at_)*A=(e-at_)*A+(tt-e)*A:=by rw [← Nat.add_mul];congr 1;omega
    have hm2:(tt-at_)*(B+1)=(e-at_)*B+(e-at_)+(tt-e)*(B+1):=by
     rw [← Nat.mul_succ,← Nat.add_mul];congr 1;omega
    refine ⟨by omega,by omega,⟨x++y,by rw [hy,hx,List.append_assoc],by simp;omega⟩,fun hW=>i3 (ha.wide hW)⟩
   ·exact ⟨by simp,by simp,⟨[],by simp,by simp⟩,id⟩
theorem starR_wide{k m d:Nat}{l:List SR}(h:Wide k m l):Wide k m (l.map (starR d)):=by
 intro a ha;obtain ⟨x,hx,rfl⟩:=List.mem_map.1 ha
 simpa [starR] using h x hx
theorem cut_wide{k m lo hi:Nat}{l:List SR}(h:Wide k m l):Wide k m (cutR l lo hi):=fun a ha=>h a (List.mem_of_mem_drop (List.mem_of_mem_take ha))
theorem cut_len(l:List SR)(lo hi:Nat):(cutR l lo hi).length≤hi-lo:=by simp [cutR];omega
theorem star_adds(leaf k m:Nat):∀ (f depth lo hi:Nat) (rs:List SR) (n:Nat),lo≤hi→hi≤rs.length→Adds rs (growF leaf f depth lo hi true rs n) k m ((hi-lo)*0) (13+21*((hi-lo)*f))
 | 0,depth,lo,hi,rs,n,_,_=>⟨⟨[],by simp [growF],by simp⟩,id,by simp [growF,wN]⟩
 | f+1,depth,lo,hi,rs,n,h1,h2=>by
   unfold growF
   split
   ·exact ⟨⟨[],by simp,by simp⟩,id,by simp [wN]⟩
   ·simp only [if_true];obtain ⟨i0,i1,⟨y,hy,hyl⟩,i3⟩:=loop_adds (d:=depth) (tt:=hi) (n:=n) (k:=k) (m:=m) (A:=0) (B:=f) (g:=fun a e rs n=>growF leaf f (depth+1) a e true rs n) (fun lo' hi' rs' n' h3 h4 h5=>star_adds leaf k m f (depth+1) lo' hi' rs' n' (by omega) (by omega)) (hi-lo) lo [] rs [] h1 h2;generalize loopF _ depth hi n (hi-lo) lo [] rs []=q at i0 i1 hy i3 ⊢;refine ⟨⟨y,hy,hyl⟩,i3,?_⟩;rw [wN_cons];simp only [List.length_nil] at i1;have hz:wN []=0:=rfl;rw [hz] at i1;simp only at i1 ⊢;omega
theorem grow_adds(leaf k m:Nat)(hleaf:1≤leaf):∀ (f depth lo hi:Nat) (rs:List SR) (n:Nat),lo≤hi→hi≤rs.length→Adds rs (growF leaf f depth lo hi false rs n) k m ((hi-lo)*f) (13+21*((hi-lo)*sumU f))
 | 0,depth,lo,hi,rs,n,_,_=>⟨⟨[],by simp [growF],by simp⟩,id,by simp [growF,wN]⟩
 | f+1,depth,lo,hi,rs,n,h1,h2=>by
   unfold growF
   split
   ·exact ⟨⟨[],by simp,by simp⟩,id,by simp [wN]⟩
   ·rename_i hlf;simp only [Bool.false_eq_true,if_false];obtain ⟨i0,i1,⟨y,hy,hyl⟩,i3⟩:=loop_adds (d:=depth) (tt:=hi) (n:=n) (k:=k) (m:=m) (A:=f) (B:=sumU f) (g:=fun a e rs n=>growF leaf f (depth+1) a e false rs n) (fun lo' hi' rs' n' h3 h4 h5=>grow_adds leaf k m hleaf f (depth+1) lo' hi' rs' n' (by omega) (by omega)) (hi-lo) lo [] rs [] h1 h2;generalize loopF _ depth hi n (hi-lo) lo [] rs []=q at i0 i1 hy i3 ⊢;have hcl:=cut_len q.2.1 lo hi;have htl:=togF_len ((cutR q.2.1 lo hi).map (starR depth));rw [List.length_map] at htl;generalize hL:togF ((cutR q.2.1 lo hi).map (starR depth))=L at htl ⊢;have ha:=star_adds leaf k m f (depth+1) q.2.1.length (q.2.1.length+L.length) (q.2.1++L) (n+1+q.2.2.length) (by omega) (by simp);generalize growF leaf f (depth+1) q.2.1.length (q.2.1.length+L.length) true (q.2.1++L) (n+1+q.2.2.length)=p at ha ⊢;obtain ⟨x,hx,hxl⟩:=ha.pre;have hx0:x=[]:=List.eq_nil_of_length_eq_zero (by simpa using hxl);subst hx0;have hw:=ha.wt;have hz:wN []=0:=rfl;rw [hz] at i1;simp only [List.length_nil] at i1;have e1:q.2.1.length+L.length-q.2.1.length=L.length:=by omega
    rw [e1] at hw;have hLf:L.length*f≤(hi-lo)*f:=Nat.mul_le_mul_right _ (by omega);refine ⟨⟨y++L,by rw [hx,hy];simp,?_⟩,fun hW=>ha.wide fun a hm=>?_,?_⟩
    ·rw [Nat.mul_succ];simp;omega
    ·rcases List.mem_append.1 hm with hm|hm
     ·exact i3 hW a hm
     ·exact togF_wide (k:=k) (m:=m) (l:=(cutR q.2.1 lo hi).map (starR depth)) (starR_wide (cut_wide (i3 hW))) a (hL ▸ hm)
    ·rw [wN_cons,wN_app];simp only [List.length_append,List.length_cons,List.length_nil];have e2:(hi-lo)*sumU (f+1)=(hi-lo)*(sumU f+1)+(hi-lo)*f+(hi-lo):=by
      rw [← Nat.mul_add,← Nat.mul_succ];congr 1;rw [show sumU (f+1)=sumU f+f+2 from rfl];omega
     omega
end Go.Star
namespace Go.Proofs.YtpkocnpamcchcaaGreatDoor
open Go.RowKit Go.Zone Go.Shelf
attribute [local go_sem] zone stepZ fill lookFs goes goesUpon dropFs cell_gro frozen_gro size_gro lt_add drew_gro tape_gro keep_refl
attribute [local go_sem] lt_add2 lt_add3 lt_add4 lt_add5 lt_add6 lt_add7 lt_add8 lt_add9 lt_add10 lt_add11 lt_add12
def cmpN(x y:Int):Int:=if x<y then -1 else if y<x then 1 else 0
theorem vcmpI_any(x y:Int)(w:World):Calls Tryz.prog 181 #[.int .i64 x,.int .i64 y] w fun e w'=>e=.returned (.int .i64 (cmpN x y))∧w=w':=by
 have hn:∀ (x:Int) (W:World),Calls Tryz.prog 222 #[.int .i64 x] W fun e w'=>e=.returned (.bool false)∧W=w':=fun x W=>by
  go_enter Tryz.func222,Tryz.ntmps222;go_wp2;go_ret;exact ⟨by simp,rfl⟩
 have HN:=lh hn;clear hn;unfold cmpN
 rcases Int.lt_trichotomy x y with h|h|h
 ·rw [if_pos h];go_enter Tryz.func181,Tryz.ntmps181;go_wp2_with (go_at_call 222;refine (HN.out _ _).mono ?_;rintro e w' ⟨rfl,rfl⟩);go_ret;exact ⟨rfl,rfl⟩
 ·have h1:¬ x<y:=by omega
  have h2:¬ y<x:=by omega
  rw [if_neg h1,if_neg h2];clear h;go_enter Tryz.func181,Tryz.ntmps181;go_wp2_with (go_at_call 222;refine (HN.out _ _).mono ?_;rintro e w' ⟨rfl,rfl⟩);go_ret;exact ⟨rfl,rfl⟩
 ·have h1:¬ x<y:=by omega
  rw [if_neg h1,if_pos h];go_enter Tryz.func181,Tryz.ntmps181;go_wp2_with (go_at_call 222;refine (HN.out _ _).mono ?_;rintro e w' ⟨rfl,rfl⟩);go_ret;exact ⟨rfl,rfl⟩
def cmpL:List Int→List Int→Int
 | x :: r,y :: s=>if cmpN x y=0 then cmpL r s else cmpN x y
 | _,_=>0
theorem vcmpL_drop(xs ys:List Int)(k:Nat)(hx:k<xs.length)(hy:k<ys.length):cmpL (xs.drop k) (ys.drop k)=if cmpN xs[k] ys[k]=0 then cmpL (xs.drop (k+1)) (ys.drop (k+1)) else cmpN xs[k] ys[k]:=by
 rw [List.drop_eq_getElem_cons hx,List.drop_eq_getElem_cons hy];rfl
theorem vcmpS_any(A B:Option Addr)(c d:Nat)(xs ys:List Int)(w:World)(hx:Sl w 1 i64V A c xs)(hy:Sl w 1 i64V B d ys)(hl:ys.length=xs.length) :
 Calls Tryz.prog 140 #[.slice A xs.length c,.slice B ys.length d] w fun e w'=>e=.returned (.int .i64 (cmpL xs ys))∧w=w':=by
 have hlx:=hx.len;have HX:=lh hx;have HY:=lh hy;have HL:=lh hl;rw [hl];clear hx hy hl;obtain ⟨n,hn⟩:∃ n,xs.length=n:=⟨_,rfl⟩;have HN:=lh hn;rw [hn] at hlx ⊢;clear hn;go_enter Tryz.func140,Tryz.ntmps140;go_wp2;go_loop [11] (fun i=>∃ k:Nat,k≤n∧i=.int .i64 k∧Hid (cmpL xs ys=cmpL (xs.drop k) (ys.drop k))) (fun i=>n-(intOf i).toNat)
 case atStart=>exact ⟨0,Nat.zero_le _,rfl,rfl⟩
 case round =>
  obtain ⟨k,hk,rfl,HE⟩:=hrel
  by_cases hlt:k<n
  ·obtain ⟨g,off,hA,hg,x0⟩:=sl_i64 HX.out k (by rw [HN.out];exact hlt);obtain ⟨g2,off2,hB,hg2,y0⟩:=sl_i64 HY.out k (by rw [HL.out,HN.out];exact hlt);have HD:=lh (vcmpL_drop xs ys k (by rw [HN.out];exact hlt) (by rw [HL.out,HN.out];exact hlt));have hkx:k<xs.length:=by rw [HN.out];exact hlt
   have hky:k<ys.length:=by rw [HL.out,HN.out];exact hlt
   generalize xs[k]=x at x0 HD;generalize ys[k]=y at y0 HD;clear hkx hky;subst hA hB
   by_cases hc:cmpN x y=0
   ·have HC:=lh hc;go_wp2_with (go_at_call 181;refine (vcmpI_any x y _).mono ?_;rintro e w' ⟨rfl,rfl⟩;rw [hc]);go_round
    case rel=>exact ⟨k+1,by omega,by go_num,by rw [HE.out,HD.out,if_pos HC.out];rfl⟩
    case measure=>simp [intOf];omega
   ·have HC:=lh hc;have hb:(cmpN x y==0)=false:=by simpa using hc
    obtain ⟨z,hz⟩:∃ z,cmpN x y=z:=⟨_,rfl⟩;have HZ:=lh hz;rw [hz] at hb;clear hc hz;go_wp2_with (go_at_call 181;refine (vcmpI_any x y _).mono ?_;rintro e w' ⟨rfl,rfl⟩;rw [HZ.out]);go_ret;exact ⟨by rw [HE.out,HD.out,if_neg HC.out,HZ.out];rfl,rfl⟩
  ·have:n=k:=by omega
   subst this;go_wp2;go_ret;exact ⟨by rw [HE.out,List.drop_of_length_le (by rw [HN.out];exact Nat.le_refl _)];rfl,rfl⟩
theorem cmpL_lex:∀ (xs ys:List Int),xs.length=ys.length→(decide (cmpL xs ys<0))=Star.lexL xs ys
 | [],[],_=>rfl
 | x :: r,y :: s,h=>by
   unfold cmpL Star.lexL;rw [← cmpL_lex r s (by simpa using h)];unfold cmpN
   rcases Int.lt_trichotomy x y with h1|h1|h1
   ·simp [h1]
   ·subst h1;simp
   ·have h2:¬ x<y:=by omega
    have h3:¬ x=y:=by omega
    simp [h1,h2,h3]
def Rc.ids(x:Rc):List Int:=[x.i0,x.i1,x.i2,x.i3,x.i4,x.i5,x.i6,x.i7]
def cmRc(x y:Rc):Int:=cmpL x.ids y.ids
theorem ltRc(x y:Rc):vltC cmRc x y=Star.lexL x.ids y.ids:=cmpL_lex _ _ rfl
theorem ordRc:Sym.Ord (vltC cmRc):=by
 have h:∀ x y,vltC cmRc x y=Star.ltR ⟨x.ids,0,[]⟩ ⟨y.ids,0,[]⟩:=fun x y=>ltRc x y;constructor
 ·intro a b;rw [h,h];exact Star.ordS.asym _ _
 ·intro a b c;rw [h,h,h];exact Star.ordS.trans _ _ _
theorem sl8{W:World}{g:Nat}(xs:List Int)(hx:xs.length=8)(h:∀ j u,xs[j]? =some u→W.cell? ⟨g,j,none⟩=some (.int .i64 u)):Sl W 1 i64V (some ⟨g,0,none⟩) 8 xs :=
 ⟨by omega,by decide,by omega,fun i hi=>⟨g,0,rfl,fun j u hu=>by
  match j,hu with
  | 0,hu =>
    cases hu
    simpa using h i _ (List.getElem?_eq_getElem hi)⟩⟩
theorem list8{P:Nat→Int→Prop}{a0 a1 a2 a3 a4 a5 a6 a7:Int}(h0:P 0 a0)(h1:P 1 a1)(h2:P 2 a2)(h3:P 3 a3)(h4:P 4 a4)(h5:P 5 a5)(h6:P 6 a6)(h7:P 7 a7):∀ j u,[a0,a1,a2,a3,a4,a5,a6,a7][j]? =some u→P j u
 | 0,_,h=>by cases h;exact h0
 | 1,_,h=>by cases h;exact h1
 | 2,_,h=>by cases h;exact h2
 | 3,_,h=>by cases h;exact h3
 | 4,_,h=>by cases h;exact h4
 | 5,_,h=>by cases h;exact h5
 | 6,_,h=>by cases h;exact h6
 | 7,_,h=>by cases h;exact h7
 | j+8,_,h=>by simp at h
theorem tog1_any(x y:Rc)(w:World) :
 Calls Tryz.prog 139 #[x.v,y.v] w fun e w'=>e=.returned (.int .i64 (cmRc x y))∧Keep w w':=by
 obtain ⟨a0,a1,a2,a3,a4,a5,a6,a7,an,aA,al,ac⟩:=x;obtain ⟨b0,b1,b2,b3,b4,b5,b6,b7,bn,bA,bl,bc⟩:=y;show Calls Tryz.prog 139 #[.agg #[.int .i64 a0,.int .i64 a1,.int .i64 a2,.int .i64 a3,.int .i64 a4,.int .i64 a5,.int .i64 a6,.int .i64 a7,.int .i64 an,.slice aA al ac],.agg #[.int .i64 b0,.int .i64 b1,.int .i64 b2,.int .i64 b3,.int .i64 b4,.int .i64 b5,.int .i64 b6,.int .i64 b7,.int .i64 bn,.slice bA bl bc]] w fun e w'=>e=.returned (.int .i64 (cmpL [a0,a1,a2,a3,a4,a5,a6,a7] [b0,b1,b2,b3,b4,b5,b6,b7]))∧Keep w w';have HC:=lh (fun W A B c d (h1:Sl W 1 i64V A c [a0,a1,a2,a3,a4,a5,a6,a7]) (h2:Sl W 1 i64V B d [b0,b1,b2,b3,b4,b5,b6,b7])=>vcmpS_any A B c d [a0,a1,a2,a3,a4,a5,a6,a7] [b0,b1,b2,b3,b4,b5,b6,b7] W h1 h2 rfl);generalize cmpL [a0,a1,a2,a3,a4,a5,a6,a7] [b0,b1,b2,b3,b4,b5,b6,b7]=z at HC ⊢;go_enter Tryz.func139,Tryz.ntmps139;go_upto_region 1 with fail;have hx:Sl ((w.alloc (.cells #[.int .i64 a0,.int .i64 a1,.int .i64 a2,.int .i64 a3,.int .i64 a4,.int .i64 a5,.int .i64 a6,.int .i64 a7,.int .i64 an,.slice aA al ac] 158)).alloc (.cells #[.int .i64 b0,.int .i64 b1,.int .i64 b2,.int .i64 b3,.int .i64 b4,.int .i64 b5,.int .i64 b6,.int .i64 b7,.int .i64 bn,.slice bA bl bc] 158)) 1 i64V (some ⟨w.heap.size,0,none⟩) 8 [a0,a1,a2,a3,a4,a5,a6,a7]:=sl8 _ rfl (list8 (by simp [go_sem]) (by simp [go_sem]) (by simp [go_sem]) (by simp [go_sem]) (by simp [go_sem]) (by simp [go_sem]) (by simp [go_sem]) (by simp [go_sem]))
 have hy:Sl ((w.alloc (.cells #[.int .i64 a0,.int .i64 a1,.int .i64 a2,.int .i64 a3,.int .i64 a4,.int .i64 a5,.int .i64 a6,.int .i64 a7,.int .i64 an,.slice aA al ac] 158)).alloc (.cells #[.int .i64 b0,.int .i64 b1,.int .i64 b2,.int .i64 b3,.int .i64 b4,.int .i64 b5,.int .i64 b6,.int .i64 b7,.int .i64 bn,.slice bA bl bc] 158)) 1 i64V (some ⟨w.heap.size+1,0,none⟩) 8 [b0,b1,b2,b3,b4,b5,b6,b7]:=sl8 _ rfl (list8 (by simp [go_sem]) (by simp [go_sem]) (by simp [go_sem]) (by simp [go_sem]) (by simp [go_sem]) (by simp [go_sem]) (by simp [go_sem]) (by simp [go_sem]));have HX:=lh hx;have HY:=lh hy;have HK:=lh (show Keep w ((w.alloc (.cells #[.int .i64 a0,.int .i64 a1,.int .i64 a2,.int .i64 a3,.int .i64 a4,.int .i64 a5,.int .i64 a6,.int .i64 a7,.int .i64 an,.slice aA al ac] 158)).alloc (.cells #[.int .i64 b0,.int .i64 b1,.int .i64 b2,.int .i64 b3,.int .i64 b4,.int .i64 b5,.int .i64 b6,.int .i64 b7,.int .i64 bn,.slice bA bl bc] 158)) from (by repeat first|exact kp0|apply kp1|apply kp2|apply kp3|apply kp4));have hz1:w.heap.size<((w.alloc (.cells #[.int .i64 a0,.int .i64 a1,.int .i64 a2,.int .i64 a3,.int .i64 a4,.int .i64 a5,.int .i64 a6,.int .i64 a7,.int .i64 an,.slice aA al ac] 158)).alloc (.cells #[.int .i64 b0,.int .i64 b1,.int .i64 b2,.int .i64 b3,.int .i64 b4,.int .i64 b5,.int .i64 b6,.int .i64 b7,.int .i64 bn,.slice bA bl bc] 158)).heap.size:=by simp;omega
 have hz2:w.heap.size+1<((w.alloc (.cells #[.int .i64 a0,.int .i64 a1,.int .i64 a2,.int .i64 a3,.int .i64 a4,.int .i64 a5,.int .i64 a6,.int .i64 a7,.int .i64 an,.slice aA al ac] 158)).alloc (.cells #[.int .i64 b0,.int .i64 b1,.int .i64 b2,.int .i64 b3,.int .i64 b4,.int .i64 b5,.int .i64 b6,.int .i64 b7,.int .i64 bn,.slice bA bl bc] 158)).heap.size:=by simp
 clear hx hy;generalize (w.alloc _).alloc _=w2 at HX HY HK hz1 hz2 ⊢
 first|refine Zone.wp_region_all_gro (by kernel_rfl) (by kernel_rfl) ?_|refine Zone.wp_region_all (by kernel_rfl) (by kernel_rfl) ?_
 repeat
  refine Zone.wpZ_step (fun K hK=>?_);go_simp
  first
  | (refine hK _ _ ?_;clear hK K)
  | (apply Exists.intro
     refine ⟨fun p=>?_,hK _ _ ?_⟩
     ((go_at_call 140;exact Zone.zs (HC.out _ _ _ _ _ (HX.out.keep (by repeat first|exact kp0|apply kp1|apply kp2|apply kp3|apply kp4)) (HY.out.keep (by repeat first|exact kp0|apply kp1|apply kp2|apply kp3|apply kp4)))))
     clear hK K)
 refine Zone.wpZ_nil ?_;intro p;simp only [Zone.fill];go_wp2;go_ret;exact ⟨rfl,HK.out.trans (by repeat first|exact kp0|apply kp1|apply kp2|apply kp3|apply kp4)⟩
theorem vssf_any(f:Nat)(lb:Array Value)(cm:Rc→Rc→Int)(M:Rc→Prop)(w0:World)(g c base n:Nat)(xs:List Rc)(w:World)(ho:Sym.Ord (vltC cm))(hc:VCmpOk f lb cm M w0 g)(hM:∀ x∈xs,M x)(ht:Turn w0 w [g])(hN:xs.length=n)(h:OwnRc w base (.slice (some ⟨g,0,none⟩) n c) xs)(hl:n≤1000000000) :
 Calls Tryz.prog 138 #[.slice (some ⟨g,0,none⟩) n c,.func (.func f) #[] lb] w fun e w'=>e=.returned (.tuple #[])∧OwnRc w' base (.slice (some ⟨g,0,none⟩) n c) (Sym.ssort (vltC cm) xs)∧Turn w w' [g]:=by
 have HS:=lh (vstab_any f lb cm M w0 g c base n xs w ho hc hM ht hN h hl);have HO:=lh ho;clear ho hc hM ht hN h hl;go_enter Tryz.func138,Tryz.ntmps138;go_wp2_with (go_at_call 180;refine hold ?_);refine unhold ?_;refine HS.out.mono ?_;rintro e w' ⟨rfl,ys,hs,hown,hT⟩;have HY:=lh (Sym.stb_ssort HO.out hs);have HOW:=lh hown;have HT:=lh hT;clear hs hown hT HS;go_wp2;go_end0;exact ⟨rfl,by rw [← HY.out];exact HOW.out,HT.out⟩
theorem cmok_rc(w0:World)(g:Nat):VCmpOk 139 #[] cmRc (fun _=>True) w0 g :=
 ⟨enters_of Tryz.func139 (by kernel_rfl) rfl,fun W x y _ _ _=>tog1_any x y W⟩
theorem vsort_any(g c base n:Nat)(xs:List Rc)(w:World)(hN:xs.length=n)(h:OwnRc w base (.slice (some ⟨g,0,none⟩) n c) xs)(hl:n≤1000000000) :
 Calls Tryz.prog 138 #[.slice (some ⟨g,0,none⟩) n c,.func (.func 139) #[] #[]] w fun e w'=>e=.returned (.tuple #[])∧OwnRc w' base (.slice (some ⟨g,0,none⟩) n c) (Sym.ssort (vltC cmRc) xs)∧Turn w w' [g] :=
 vssf_any 139 #[] cmRc (fun _=>True) w g c base n xs w ordRc (cmok_rc w g) (fun _ _=>trivial) (Turn.refl _ _) hN h hl
abbrev SM:=Int × Int × Int
def smC(s:SM):List Value:=[.int .i64 s.1,.int .i64 s.2.1,.int .i64 s.2.2]
theorem sm_len(x:SM):(smC x).length=3:=rfl
theorem sm_one(x:SM):∀ u∈smC x,u.oneCell'=true:=by simp [smC,Value.oneCell']
theorem elt_sm:Elt Tryz.prog 156 160 3 24:=by
 obtain ⟨i,hi,h1,h2,h3⟩:=info_parts (show (Tryz.prog.info? 160).map (fun i=>(i.zero,i.size,i.bytes))=some (some (.agg #[.int .i64 0,.int .i64 0,.int .i64 0]),3,24) by kernel_rfl);exact ⟨i,_,Tryz.underlying156,hi,h1,h2,h3,rfl,by decide,by decide⟩
theorem elt_rc:Elt Tryz.prog 151 158 10 96:=by
 obtain ⟨i,hi,h1,h2,h3⟩:=info_parts (show (Tryz.prog.info? 158).map (fun i=>(i.zero,i.size,i.bytes))=some (some (.agg #[.int .i64 0,.int .i64 0,.int .i64 0,.int .i64 0,.int .i64 0,.int .i64 0,.int .i64 0,.int .i64 0,.int .i64 0,.slice none 0 0]),10,96) by kernel_rfl);exact ⟨i,_,Tryz.underlying151,hi,h1,h2,h3,rfl,by decide,by decide⟩
abbrev OwnSm(w:World)(base:Nat)(v:Value)(xs:List SM):Prop:=Own w base 160 3 smC v xs
def Rc.sv(r:Rc):Value:=.slice r.A r.l r.c
def blkR(r:Rc):Option Nat:=r.sv.ownBlock
structure RecAt(W:World)(base:Nat)(r:Rc)(x:Star.SR):Prop where
 ids:r.ids=x.ids
 n:r.n=x.n
 own:OwnSm W base r.sv x.sums
 nil_:x.sums=[]→r.A=none
theorem RecAt.keep{w w':World}{base:Nat}{r:Rc}{x:Star.SR}(h:RecAt w base r x)(hk:Keep w w'):RecAt w' base r x:=⟨h.ids,h.n,h.own.keep hk,h.nil_⟩
theorem RecAt.base{w:World}{base base':Nat}{r:Rc}{x:Star.SR}(h:RecAt w base r x)(hb:base'≤base):RecAt w base' r x:=⟨h.ids,h.n,h.own.base_mono hb,h.nil_⟩
theorem RecAt.turn{w w':World}{base:Nat}{r:Rc}{x:Star.SR}{S:List Nat}(h:RecAt w base r x)(ht:Turn w w' S)(hs:∀ i∈S,blkR r≠some i):RecAt w' base r x:=⟨h.ids,h.n,h.own.turn ht hs,h.nil_⟩
theorem RecAt.len{w:World}{base:Nat}{r:Rc}{x:Star.SR}(h:RecAt w base r x):r.l=x.sums.length:=by
 rcases h.own.2 with ⟨h1,h0⟩ | ⟨g,cap,cur,h1,_⟩<;>(unfold Rc.sv at h1;injection h1 with _ e _;try omega)
theorem RecAt.len8{w:World}{base:Nat}{r:Rc}{x:Star.SR}(h:RecAt w base r x):x.ids.length=8:=by rw [← h.ids];rfl
def Apart(P:List (Rc × Star.SR)):Prop:=P.Pairwise fun p q=>∀ b,blkR p.1=some b→blkR q.1≠some b
def RecsAt(W:World)(base:Nat)(P:List (Rc × Star.SR)):Prop:=∀ p∈P,RecAt W base p.1 p.2
theorem RecsAt.keep{w w':World}{base:Nat}{P:List (Rc × Star.SR)}(h:RecsAt w base P)(hk:Keep w w'):RecsAt w' base P:=fun p hp=>(h p hp).keep hk
theorem RecsAt.base{w:World}{base base':Nat}{P:List (Rc × Star.SR)}(h:RecsAt w base P)(hb:base'≤base):RecsAt w base' P:=fun p hp=>(h p hp).base hb
theorem vown_own_ne{α β:Type}{w:World}{base base' k k':Nat}{e e':TypeId}{enc:α→List Value}{enc':β→List Value}{v v':Value}{xs:List α}{ys:List β}(h:Own w base e k enc v xs)(h':Own w base' e' k' enc' v' ys)(ht:e≠e'):∀ b,v.ownBlock=some b→v'.ownBlock≠some b:=by
 intro b hb hb'
 rcases h.2 with ⟨rfl,_⟩ | ⟨g,cap,cur,rfl,_,hg,_⟩
 ·cases hb
 ·rcases h'.2 with ⟨rfl,_⟩ | ⟨g',cap',cur',rfl,_,hg',_⟩
  ·cases hb'
  ·simp only [Value.ownBlock,Option.some.injEq] at hb hb';subst hb;subst hb';rw [hg] at hg';simp at hg';exact ht hg'.2
theorem RecsAt.turn{w w':World}{base base' k:Nat}{e:TypeId}{α:Type}{enc:α→List Value}{v:Value}{xs:List α}{S:List Nat}{P:List (Rc × Star.SR)}(h:RecsAt w base P)(ho:Own w base' e k enc v xs)(he:e≠160)(ht:Turn w w' S)(hS:∀ i∈S,v.ownBlock=some i):RecsAt w' base P:=fun p hp=>(h p hp).turn ht fun i hi=>vown_own_ne ho (h p hp).own he i (hS i hi)
structure Nc where
 d:Int
 lo:Int
 hi:Int
 A:Option Addr
 l:Nat
 c:Nat
def Nc.cells(x:Nc):List Value:=[.int .i64 x.d,.int .i64 x.lo,.int .i64 x.hi,.slice x.A x.l x.c]
theorem nc_len(x:Nc):x.cells.length=4:=rfl
theorem nc_one(x:Nc):∀ u∈x.cells,u.oneCell'=true:=by simp [Nc.cells,Value.oneCell']
def kdC(s:Int × Nat):List Value:=[.int .i64 s.1,.int .i64 (s.2:Int)]
theorem kd_len(x:Int × Nat):(kdC x).length=2:=rfl
theorem kd_one(x:Int × Nat):∀ u∈kdC x,u.oneCell'=true:=by simp [kdC,Value.oneCell']
theorem elt_kd:Elt Tryz.prog 115 119 2 16:=by
 obtain ⟨i,hi,h1,h2,h3⟩:=info_parts (show (Tryz.prog.info? 119).map (fun i=>(i.zero,i.size,i.bytes))=some (some (.agg #[.int .i64 0,.int .i64 0]),2,16) by kernel_rfl);exact ⟨i,_,Tryz.underlying115,hi,h1,h2,h3,rfl,by decide,by decide⟩
theorem elt_nc:Elt Tryz.prog 107 117 4 48:=by
 obtain ⟨i,hi,h1,h2,h3⟩:=info_parts (show (Tryz.prog.info? 117).map (fun i=>(i.zero,i.size,i.bytes))=some (some (.agg #[.int .i64 0,.int .i64 0,.int .i64 0,.slice none 0 0]),4,48) by kernel_rfl);exact ⟨i,_,Tryz.underlying107,hi,h1,h2,h3,rfl,by decide,by decide⟩
abbrev OwnKd(w:World)(base:Nat)(v:Value)(xs:List (Int × Nat)):Prop:=Own w base 119 2 kdC v xs
abbrev OwnNc(w:World)(base:Nat)(v:Value)(xs:List Nc):Prop:=Own w base 117 4 Nc.cells v xs
structure NodeAt(W:World)(base:Nat)(r:Nc)(x:Star.SN):Prop where
 d:r.d=(x.depth:Int)
 lo:r.lo=(x.lo:Int)
 hi:r.hi=(x.hi:Int)
 own:OwnKd W base (.slice r.A r.l r.c) x.kids
def NodesAt(W:World)(base:Nat)(P:List (Nc × Star.SN)):Prop:=∀ p∈P,NodeAt W base p.1 p.2
def RN(W:World)(i:Nat):Prop:=∃ cs f,W.heap[i]? =some (.cells cs 158 f)∨W.heap[i]? =some (.cells cs 117 f)
structure Gw(base gt:Nat)(W W':World):Prop where
 os:W'.os=W.os
 tape:W'.tape=W.tape
 output:W'.output=W.output
 size:W.heap.size≤W'.heap.size
 block:∀ i,i<W.heap.size→(i<base∨(i≠gt∧¬ RN W i))→W'.heap[i]? =W.heap[i]?
section
variable {base gt:Nat} {w W W' W2:World}
theorem Gw.refl(base gt:Nat)(W:World):Gw base gt W W:=⟨rfl,rfl,rfl,Nat.le_refl _,fun _ _ _=>rfl⟩
theorem Gw.keep(h:Keep W W')(base gt:Nat):Gw base gt W W':=⟨h.os,h.tape,h.output,h.size,fun i hi _=>h.block i hi⟩
theorem Gw.trans(h:Gw base gt W W')(k:Gw base gt W' W2):Gw base gt W W2 :=
 ⟨k.os.trans h.os,k.tape.trans h.tape,k.output.trans h.output,Nat.le_trans h.size k.size,fun i hi hc=>by
  have e:=h.block i hi hc;refine (k.block i (Nat.lt_of_lt_of_le hi h.size) ?_).trans e
  rcases hc with hc | ⟨h1,h2⟩
  ·exact .inl hc
  ·refine .inr ⟨h1,fun ⟨cs,f,hq⟩=>h2 ⟨cs,f,?_⟩⟩;rw [e] at hq;exact hq⟩
theorem Gw.of_turn{S:List Nat}(h:Turn W W' S)(hs:∀ i∈S,base≤i∧(i=gt∨RN W i∨W.heap.size≤i)):Gw base gt W W' :=
 ⟨h.os,h.tape,h.output,h.size,fun i hi hc=>h.block i hi fun hm=>by
  obtain ⟨h1,h2⟩:=hs i hm
  rcases hc with hc | ⟨hc1,hc2⟩
  ·omega
  ·rcases h2 with h2|h2|h2
   ·exact hc1 h2
   ·exact hc2 h2
   ·omega⟩
theorem Gw.own{α:Type}{b k:Nat}{e T:TypeId}{enc:α→List Value}{v:Value}{xs:List α}{vs:List Value}(h:Own W b e k enc v xs)(hg:Gw base gt W W')(h1:e≠158)(h2:e≠117)(hr:Row W gt T vs)(hT:T≠e):Own W' b e k enc v xs:=by
 have hne:=own_row_ne h hr hT;refine ⟨h.1,?_⟩
 rcases h.2 with hn | ⟨g,cap,cur,rfl,hb,hq,rest⟩
 ·exact .inl hn
 ·refine .inr ⟨g,cap,cur,rfl,hb,(hg.block g (Array.getElem?_eq_some_iff.1 hq).1 (.inr ⟨fun e=>hne (by rw [e];rfl),fun ⟨cs,f,hc⟩=>?_⟩)).trans hq,rest⟩;rw [hq] at hc;simp only [Option.some.injEq,Obj.cells.injEq] at hc
  rcases hc with hc|hc
  ·exact h1 hc.2.1
  ·exact h2 hc.2.1
theorem Gw.row{g:Nat}{T T':TypeId}{vs us:List Value}(h:Row W g T vs)(hg:Gw base gt W W')(h1:T≠158)(h2:T≠117)(hr:Row W gt T' us)(hT:T≠T'):Row W' g T vs:=by
 refine (hg.block g h.lt (.inr ⟨row_ne h hr hT,fun ⟨cs,f,hc⟩=>?_⟩)).trans h;unfold Row at h;rw [h] at hc;simp only [Option.some.injEq,Obj.cells.injEq] at hc
 rcases hc with hc|hc
 ·exact h1 hc.2.1
 ·exact h2 hc.2.1
theorem Gw.after(h:Keep w W)(k:Gw base gt W W')(hb:w.heap.size≤base):Keep w W' :=
 ⟨k.os.trans h.os,k.tape.trans h.tape,k.output.trans h.output,Nat.le_trans h.size k.size,fun i hi=>(k.block i (Nat.lt_of_lt_of_le hi h.size) (.inl (by omega))).trans (h.block i hi)⟩
end
theorem own_RN{α:Type}{w:World}{b k i:Nat}{e:TypeId}{enc:α→List Value}{v:Value}{xs:List α}(h:Own w b e k enc v xs)(he:e=158∨e=117)(hv:v.ownBlock=some i):b≤i∧RN w i:=by
 rcases h.2 with ⟨rfl,_⟩ | ⟨g,cap,cur,rfl,hb,hg,_⟩
 ·cases hv
 ·simp only [Value.ownBlock,Option.some.injEq] at hv;subst hv;refine ⟨hb,cur,(0,0),?_⟩
  rcases he with rfl|rfl
  ·exact .inl hg
  ·exact .inr hg
end Go.Proofs.YtpkocnpamcchcaaGreatDoor
