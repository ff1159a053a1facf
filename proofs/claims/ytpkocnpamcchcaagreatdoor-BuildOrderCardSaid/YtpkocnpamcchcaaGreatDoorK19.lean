/- Parts of the proof. -/
import Derived.Test.YtpkocnpamcchcaaGreatDoorK18
set_option maxRecDepth 100000
set_option maxHeartbeats 4000000
set_option linter.unusedSimpArgs false
set_option linter.unusedVariables false
set_option linter.unnecessarySimpa false
namespace Go.Roa
def bitsL(tz:Nat→Nat):Nat→Nat→List Nat
 | 0,_=>[]
 | f+1,x=>if x=0 then [] else tz x :: bitsL tz f (x &&& (x-1))
theorem bitsL_len(tz:Nat→Nat):∀ f x,(bitsL tz f x).length≤f
 | 0,_=>Nat.le_refl _
 | f+1,x=>by
   unfold bitsL
   split
   ·exact Nat.zero_le _
   ·have:=bitsL_len tz f (x &&& (x-1));simp;omega
theorem bitsL_lt{tz:Nat→Nat}{B:Nat}(ht:∀ x,x≠0→tz x<B):∀ f x,∀ y∈bitsL tz f x,y<B
 | 0,_,y,hy=>by cases hy
 | f+1,x,y,hy=>by
   unfold bitsL at hy
   split at hy
   ·cases hy
   ·rename_i h
    rcases List.mem_cons.1 hy with rfl|hy
    ·exact ht x h
    ·exact bitsL_lt ht f _ y hy
theorem dvd_bits{x j:Nat}:2^j ∣ x↔∀ i,i<j→x.testBit i=false:=by
 rw [Nat.dvd_iff_mod_eq_zero];constructor
 ·intro h i hi;have h1:=Nat.testBit_mod_two_pow x j i;rw [h] at h1;simp [hi] at h1;exact h1
 ·intro h;apply Nat.eq_of_testBit_eq;intro i;rw [Nat.testBit_mod_two_pow,Nat.zero_testBit]
  by_cases hi:i<j
  ·simp [hi,h i hi]
  ·simp [hi]
theorem low_gone{x j:Nat}(h0:x≠0)(h:2^j ∣ x):2^(j+1) ∣ x &&& (x-1):=by
 rw [dvd_bits];intro i hi;rw [Nat.testBit_and]
 by_cases hij:i<j
 ·rw [dvd_bits.1 h i hij,Bool.false_and]
 ·have e:i=j:=by omega
  subst e;obtain ⟨q,rfl⟩:=h;have hq:q≠0:=fun e=>h0 (by rw [e,Nat.mul_zero]);have hp:0<2^i:=Nat.pow_pos (by decide);have e1:(2^i*q)/2^i=q:=Nat.mul_div_cancel_left _ hp;have e2:(2^i*q-1)/2^i=q-1:=by
   obtain ⟨p,rfl⟩:∃ p,q=p+1:=⟨q-1,by omega⟩;rw [Nat.mul_add,Nat.mul_one,show 2^i*p+2^i-1=2^i*p+(2^i-1) by omega,Nat.mul_add_div hp,Nat.div_eq_of_lt (by omega)];omega
  rw [Nat.testBit_eq_decide_div_mod_eq,Nat.testBit_eq_decide_div_mod_eq,e1,e2]
  by_cases hm:q%2=1
  ·have:(q-1)%2=0:=by omega
   simp [this]
  ·simp [hm]
theorem dvd_zero{x:Nat}(h:x<2^64)(hd:2^64 ∣ x):x=0:=Nat.eq_zero_of_dvd_of_lt hd h
def ofW(a:List Nat):Nat:=a.foldl (fun x v=>x ||| (1 <<< v)) 0
def flipW(x lo hi:Nat):Nat:=x ^^^ ((((2^64-1) >>> (64-(hi-lo))) <<< lo)%2^64)
theorem or_lt{x y:Nat}(h:x<2^64)(k:y<2^64):x ||| y<2^64:=Nat.or_lt_two_pow h k
theorem ofW_lt(a:List Nat)(h:∀ x∈a,x<64):ofW a<2^64:=by
 have:∀ (l:List Nat) (x:Nat),x<2^64→(∀ v∈l,v<64)→l.foldl (fun x v=>x ||| (1 <<< v)) x<2^64:=by
  intro l
  induction l with
  | nil=>intro x h _;exact h
  | cons v r ih =>
    intro x hx hl;refine ih _ (or_lt hx ?_) fun u hu=>hl u (by simp [hu]);rw [Nat.one_shiftLeft];exact Nat.pow_lt_pow_right (by decide) (hl v (by simp))
 exact this a 0 (by decide) h
theorem flipW_lt{x lo hi:Nat}(h:x<2^64):flipW x lo hi<2^64:=Nat.xor_lt_two_pow h (Nat.mod_lt _ (by decide))
inductive Con
 | arr (a:List Nat)
 | wrd (x:Nat)
 | run (r:List (Nat × Nat))
structure Bit where
 pop:Nat→Nat
 tz:Nat→Nat
 pop_lt:∀ x,pop x≤127
 tz_lt:∀ x,x≠0→tz x<64
variable (T:Bit)
def Con.len:Con→Nat
 | .arr a=>a.length
 | .wrd x=>T.pop x
 | .run r=>(r.map fun p=>p.2+1).sum
def Con.many:Con→Nat
 | .arr a=>arrRuns a a.length
 | .wrd x=>T.pop (x &&& (18446744073709551615-x*2%18446744073709551616))
 | .run r=>r.length
def listR(r:List (Nat × Nat)):List Nat:=r.flatMap fun p=>List.range' p.1 (p.2+1)
def Con.list:Con→List Nat
 | .arr a=>a
 | .wrd x=>bitsL T.tz 64 x
 | .run r=>listR r
def Con.runs:Con→List (Nat × Nat)
 | .run r=>r
 | .arr a=>runsTo a a.length
 | .wrd x=>runsTo (bitsL T.tz 64 x) (bitsL T.tz 64 x).length
def Con.word:Con→Nat
 | .arr a=>ofW a
 | .wrd x=>x
 | .run r=>r.foldl (fun x p=>flipW x p.1 (p.1+p.2+1)) 0
def Con.kind:Con→Nat
 | .arr _=>1
 | .wrd _=>2
 | .run _=>3
def least(n:Nat):Nat:=if n≤4096 then 2*n else 8192
def wantK(n r:Nat):Nat:=if 2+4*r<least n then 3 else if n≤4096 then 1 else 2
def Con.turn(c:Con)(k:Nat):Con:=if k=c.kind then c else if k=3 then .run (c.runs T) else if k=1 then .arr (c.list T) else .wrd c.word
def Con.canon(c:Con):Con:=c.turn T (wantK (c.len T) (c.many T))
def orB(a b:Bool):Bool:=a||b
def Con.or_:Con→Con→Con
 | .arr a,.arr b=>.arr (orA a b)
 | .run r,.run s=>.run (edges orB (rowE r) (rowE s))
 | c,d=>.wrd (c.word ||| d.word)
def Con.or(c d:Con):Con:=(c.or_ d).canon T
def Con.Good:Con→Prop
 | .arr a=>∀ x∈a,x<64
 | .wrd x=>x<2^64
 | .run r=>∀ p∈r,p.1+p.2+1≤64
def Con.W:Con→Nat
 | .arr a=>a.length
 | .wrd _=>129
 | .run r=>2*r.length+1
def Con.NotW:Con→Prop
 | .wrd _=>False
 | _=>True
theorem listR_len:∀ r:List (Nat × Nat),(listR r).length=(r.map fun p=>p.2+1).sum
 | []=>rfl
 | p :: r=>by
   have:=listR_len r;simp only [listR,List.flatMap_cons,List.length_append,List.length_range',List.map_cons,List.sum_cons] at this ⊢;omega
theorem listR_lt{r:List (Nat × Nat)}{B:Nat}(h:∀ p∈r,p.1+p.2+1≤B):∀ x∈listR r,x<B:=by
 intro x hx;obtain ⟨p,hp,hx⟩:=List.mem_flatMap.1 hx;have:=h p hp;rw [List.mem_range'_1] at hx;omega
theorem arrRuns_le(a:List Nat):∀ k,arrRuns a k≤k
 | 0=>Nat.le_refl _
 | k+1=>by
   have:=arrRuns_le a k;unfold arrRuns
   split<;>omega
theorem sum_le_mul(r:List (Nat × Nat)){B:Nat}(h:∀ p∈r,p.2+1≤B):(r.map fun p=>p.2+1).sum≤r.length*B:=by
 induction r with
 | nil=>simp
 | cons p r ih =>
   have h1:=ih fun q hq=>h q (by simp [hq]);have h2:=h p (by simp);simp only [List.map_cons,List.sum_cons,List.length_cons,Nat.add_mul,Nat.one_mul];omega
theorem wantK_cases(n r:Nat):(wantK n r=3∧2+4*r<least n)∨(wantK n r=1∧n≤4096∧¬ 2+4*r<least n)∨(wantK n r=2∧4096<n∧¬ 2+4*r<least n):=by
 unfold wantK
 by_cases h1:2+4*r<least n
 ·exact .inl ⟨if_pos h1,h1⟩
 ·by_cases h2:n≤4096
  ·exact .inr (.inl ⟨by rw [if_neg h1,if_pos h2],h2,h1⟩)
  ·exact .inr (.inr ⟨by rw [if_neg h1,if_neg h2],by omega,h1⟩)
theorem canon_ok(c:Con)(hg:c.Good)(hw:c.W≤3000):(c.canon T).Good∧(c.canon T).NotW∧(c.canon T).W≤c.W:=by
 have hcs:=wantK_cases (c.len T) (c.many T);unfold Con.canon;generalize wantK (c.len T) (c.many T)=K at hcs ⊢
 cases c with
 | arr a =>
   simp only [Con.W,Con.len,Con.many] at hw hcs;have h1:=arrRuns_le a a.length
   rcases hcs with ⟨rfl,hr⟩ | ⟨rfl,hn,hr⟩ | ⟨rfl,hn,hr⟩
   ·have e:(Con.arr a).turn T 3=.run (runsTo a a.length):=rfl;rw [e];unfold least at hr;rw [if_pos (by omega)] at hr;refine ⟨fun p hp=>?_,trivial,?_⟩
    ·have:=runsTo_ends a 64 hg a.length (Nat.le_refl _) p hp;omega
    ·simp only [Con.W,runsTo_len];omega
   ·exact ⟨hg,trivial,Nat.le_refl _⟩
   ·omega
 | wrd x =>
   have hp:=T.pop_lt x;simp only [Con.len,Con.many] at hcs;have hl:=bitsL_len T.tz 64 x;have hlt:=bitsL_lt T.tz_lt 64 x
   rcases hcs with ⟨rfl,hr⟩ | ⟨rfl,hn,hr⟩ | ⟨rfl,hn,hr⟩
   ·have e:(Con.wrd x).turn T 3=.run (runsTo (bitsL T.tz 64 x) (bitsL T.tz 64 x).length):=rfl;rw [e];refine ⟨fun p hp=>?_,trivial,?_⟩
    ·have:=runsTo_ends _ 64 hlt _ (Nat.le_refl _) p hp;omega
    ·have:=arrRuns_le (bitsL T.tz 64 x) (bitsL T.tz 64 x).length;simp only [Con.W,runsTo_len];omega
   ·have e:(Con.wrd x).turn T 1=.arr (bitsL T.tz 64 x):=rfl;rw [e];exact ⟨hlt,trivial,by simp only [Con.W];omega⟩
   ·omega
 | run r =>
   simp only [Con.W,Con.len,Con.many] at hw hcs
   rcases hcs with ⟨rfl,hr⟩ | ⟨rfl,hn,hr⟩ | ⟨rfl,hn,hr⟩
   ·exact ⟨hg,trivial,Nat.le_refl _⟩
   ·have e:(Con.run r).turn T 1=.arr (listR r):=rfl;rw [e];unfold least at hr;rw [if_pos hn] at hr;refine ⟨listR_lt hg,trivial,?_⟩;simp only [Con.W,listR_len];omega
   ·unfold least at hr;rw [if_neg (by omega)] at hr;omega
theorem word_lt(c:Con)(h:c.Good):c.word<2^64:=by
 cases c with
 | arr a=>exact ofW_lt a h
 | wrd x=>exact h
 | run r =>
   have:∀ (l:List (Nat × Nat)) (x:Nat),x<2^64→l.foldl (fun x p=>flipW x p.1 (p.1+p.2+1)) x<2^64:=by
    intro l
    induction l with
    | nil=>intro x h;exact h
    | cons v r ih=>intro x hx;exact ih _ (flipW_lt hx)
   exact this r 0 (by decide)
theorem or_ok(c d:Con)(hc:c.Good)(hd:d.Good)(nc:c.NotW)(nd:d.NotW)(hw:c.W+d.W≤2800):(c.or T d).Good∧(c.or T d).NotW∧(c.or T d).W≤max 129 (c.W+d.W):=by
 have key:(c.or_ d).Good∧(c.or_ d).W≤max 129 (c.W+d.W):=by
  cases c with
  | wrd x=>exact nc.elim
  | arr a =>
    cases d with
    | wrd x=>exact nd.elim
    | arr b =>
      refine ⟨orA_all (· < 64) a b hc hd,?_⟩;have:=orA_len a b;simp only [Con.or_,Con.W];omega
    | run s=>exact ⟨or_lt (word_lt _ hc) (word_lt _ hd),by simp only [Con.or_,Con.W];omega⟩
  | run r =>
    cases d with
    | wrd x=>exact nd.elim
    | arr b=>exact ⟨or_lt (word_lt _ hc) (word_lt _ hd),by simp only [Con.or_,Con.W];omega⟩
    | run s =>
      have:=edges_ok orB hc hd (by decide);refine ⟨this.1,?_⟩;simp only [Con.or_,Con.W];omega
 have:=canon_ok T _ key.1 (by omega);exact ⟨this.1,this.2.1,by unfold Con.or;omega⟩
def ofR(l:List Nat):Option Con:=if l=[] then none else some ((Con.arr l).canon T)
def conO(s:Option Con):Con:=s.getD (.arr [])
def orS(s o:Option Con):Option Con:=if s=none∧o=none then none else if 0<((conO s).or T (conO o)).len T then some ((conO s).or T (conO o)) else none
structure SetOk(s:Option Con)(B:Nat):Prop where
 good:∀ c,s=some c→c.Good
 notW:∀ c,s=some c→c.NotW
 w:∀ c,s=some c→c.W≤B
theorem SetOk.con{s:Option Con}{B:Nat}(h:SetOk s B):(conO s).Good∧(conO s).NotW∧(conO s).W≤B:=by
 cases s with
 | none=>exact ⟨fun x hx=>(nomatch hx),trivial,Nat.zero_le _⟩
 | some c=>exact ⟨h.good c rfl,h.notW c rfl,h.w c rfl⟩
theorem SetOk.mono{s:Option Con}{B B':Nat}(h:SetOk s B)(hb:B≤B'):SetOk s B':=⟨h.good,h.notW,fun c e=>Nat.le_trans (h.w c e) hb⟩
theorem setOk_none(B:Nat):SetOk none B:=⟨fun _ e=>(nomatch e),fun _ e=>(nomatch e),fun _ e=>(nomatch e)⟩
theorem ofR_ok(l:List Nat)(h:∀ x∈l,x<64)(hl:l.length≤3000):SetOk (ofR T l) l.length:=by
 unfold ofR
 split
 ·exact setOk_none _
 ·have:=canon_ok T (.arr l) h hl;exact ⟨fun c e=>(by cases e;exact this.1),fun c e=>(by cases e;exact this.2.1),fun c e=>(by cases e;exact this.2.2)⟩
theorem orS_ok{s o:Option Con}{A B:Nat}(hs:SetOk s A)(ho:SetOk o B)(hb:A+B≤2800):SetOk (orS T s o) (max 129 (A+B)):=by
 unfold orS
 split
 ·exact setOk_none _
 ·split
  ·obtain ⟨a1,a2,a3⟩:=hs.con;obtain ⟨b1,b2,b3⟩:=ho.con;have:=or_ok T _ _ a1 b1 a2 b2 (by omega);exact ⟨fun c e=>(by cases e;exact this.1),fun c e=>(by cases e;exact this.2.1),fun c e=>(by cases e;exact Nat.le_trans this.2.2 (by omega))⟩
  ·exact setOk_none _
end Go.Roa
namespace Go.Proofs.YtpkocnpamcchcaaGreatDoor
open Go.RowKit Go.Zone Go.Shelf
attribute [local go_sem] zone stepZ fill lookFs goes goesUpon dropFs cell_gro frozen_gro size_gro lt_add drew_gro tape_gro keep_refl
attribute [local go_sem] lt_add2 lt_add3 lt_add4 lt_add5 lt_add6 lt_add7 lt_add8 lt_add9 lt_add10 lt_add11 lt_add12
abbrev Pr:=Nat × Nat
def rnV(p:Pr):List Value:=[.int .u16 (p.1:Int),.int .u16 (p.2:Int)]
theorem rn_len(x:Pr):(rnV x).length=2:=rfl
theorem rn_one(x:Pr):∀ u∈rnV x,u.oneCell'=true:=fun u hu=>by
 simp only [rnV,List.mem_cons,List.not_mem_nil,or_false] at hu
 rcases hu with rfl|rfl<;>rfl
theorem u16_len(x:Nat):(u16V x).length=1:=rfl
theorem u16_one(x:Nat):∀ u∈u16V x,u.oneCell'=true:=fun u hu=>by simp [u16V] at hu;subst hu;rfl
theorem u32_len(x:Nat):(u32V x).length=1:=rfl
theorem u32_one(x:Nat):∀ u∈u32V x,u.oneCell'=true:=fun u hu=>by simp [u32V] at hu;subst hu;rfl
theorem elt_u32:Elt Tryz.prog 193 81 1 4:=by
 obtain ⟨i,hi,h1,h2,h3⟩:=info_partsV (show (Tryz.prog.info? 81).map (fun i=>(i.zero,i.size,i.bytes))=some (some (.int .u32 0),1,4) by kernel_rfl);exact ⟨i,_,Tryz.underlying193,hi,h1,h2,h3,rfl,by decide,by decide⟩
abbrev OwnU32(w:World)(base:Nat)(v:Value)(xs:List Nat):Prop:=Own w base 81 1 u32V v xs
theorem cloneu32_any(A:Option Addr)(c:Nat)(xs:List Nat)(w:World)(h:Sl w 1 u32V A c xs)(hl:xs.length≤1000000000) :
 Calls Tryz.prog 166 #[.slice A xs.length c] w fun e w'=>∃ A' c',e=.returned (.slice A' xs.length c')∧OwnU32 w' w.heap.size (.slice A' xs.length c') xs∧Keep w w':=by
 have hn:=fun W:World=>Lib.run_eql_slice_nil W 193 81 A xs.length c 0 0 Tryz.underlying193
 cases A with
 | none =>
   have hx:xs=[]:=by
    rcases xs with _ | ⟨y,r⟩
    ·rfl
    ·obtain ⟨_,_,hA,_⟩:=h.at_ 0 (by simp)
     cases hA
   subst hx;simp only [List.length_nil,Option.isNone_none] at hn ⊢;go_enter Tryz.func166,Tryz.ntmps166;go_wp2;go_ret;exact ⟨none,0,rfl,Own.nil_ _ _ _ _ _,Keep.refl _⟩
 | some ad =>
   have H:=lh h;clear h;go_enter Tryz.func166,Tryz.ntmps166;go_wp2_with (at_builtin;refine hold ?_);refine unhold ?_;have HO1:OwnU32 (w.alloc (.cells #[] 81)) w.heap.size (.slice (some ⟨w.heap.size,0,none⟩) 0 0) ([]:List Nat):=World.ownsRow_made w #[] 0 (Nat.le_refl _) (by unfold maxLen;omega) rfl;refine wpList_app elt_u32 u32_len u32_one rfl (.tmp 5) (.tmp 6) rfl (ys:=xs) HO1 rfl rfl (H.out.keep (by repeat first|exact kp0|apply kp1|apply kp2|apply kp3|apply kp4)) (by simp;omega) (by simp) ?_;intro v1 w1 hown1 hg1 _;have ⟨a1,a2,a3⟩:=HO1.after (w:=w) hg1 (by repeat first|exact kp0|apply kp1|apply kp2|apply kp3|apply kp4) (Nat.le_refl _);clear hn a2 a3;go_wp2;go_ret;simp only [List.nil_append] at hown1;obtain ⟨A',c',hv⟩:=own_form hown1;exact ⟨A',c',by rw [← hv];rfl,by rw [← hv];exact hown1,a1⟩
theorem elt_u16:Elt Tryz.prog 230 126 1 2:=by
 obtain ⟨i,hi,h1,h2,h3⟩:=info_partsV (show (Tryz.prog.info? 126).map (fun i=>(i.zero,i.size,i.bytes))=some (some (.int .u16 0),1,2) by kernel_rfl);exact ⟨i,_,Tryz.underlying230,hi,h1,h2,h3,rfl,by decide,by decide⟩
abbrev OwnU16(w:World)(base:Nat)(v:Value)(xs:List Nat):Prop:=Own w base 126 1 u16V v xs
theorem cloneu16_any(A:Option Addr)(c:Nat)(xs:List Nat)(w:World)(h:Sl w 1 u16V A c xs)(hl:xs.length≤1000000000) :
 Calls Tryz.prog 205 #[.slice A xs.length c] w fun e w'=>∃ A' c',e=.returned (.slice A' xs.length c')∧OwnU16 w' w.heap.size (.slice A' xs.length c') xs∧Keep w w':=by
 have hn:=fun W:World=>Lib.run_eql_slice_nil W 230 126 A xs.length c 0 0 Tryz.underlying230
 cases A with
 | none =>
   have hx:xs=[]:=by
    rcases xs with _ | ⟨y,r⟩
    ·rfl
    ·obtain ⟨_,_,hA,_⟩:=h.at_ 0 (by simp)
     cases hA
   subst hx;simp only [List.length_nil,Option.isNone_none] at hn ⊢;go_enter Tryz.func205,Tryz.ntmps205;go_wp2;go_ret;exact ⟨none,0,rfl,Own.nil_ _ _ _ _ _,Keep.refl _⟩
 | some ad =>
   have H:=lh h;clear h;go_enter Tryz.func205,Tryz.ntmps205;go_wp2_with (at_builtin;refine hold ?_);refine unhold ?_;have HO1:OwnU16 (w.alloc (.cells #[] 126)) w.heap.size (.slice (some ⟨w.heap.size,0,none⟩) 0 0) ([]:List Nat):=World.ownsRow_made w #[] 0 (Nat.le_refl _) (by unfold maxLen;omega) rfl;refine wpList_app elt_u16 u16_len u16_one rfl (.tmp 5) (.tmp 6) rfl (ys:=xs) HO1 rfl rfl (H.out.keep (by repeat first|exact kp0|apply kp1|apply kp2|apply kp3|apply kp4)) (by simp;omega) (by simp) ?_;intro v1 w1 hown1 hg1 _;have ⟨a1,a2,a3⟩:=HO1.after (w:=w) hg1 (by repeat first|exact kp0|apply kp1|apply kp2|apply kp3|apply kp4) (Nat.le_refl _);clear hn a2 a3;go_wp2;go_ret;simp only [List.nil_append] at hown1;obtain ⟨A',c',hv⟩:=own_form hown1;exact ⟨A',c',by rw [← hv];rfl,by rw [← hv];exact hown1,a1⟩
theorem elt_rn:Elt Tryz.prog 235 277 2 4:=by
 obtain ⟨i,hi,h1,h2,h3⟩:=info_partsV (show (Tryz.prog.info? 277).map (fun i=>(i.zero,i.size,i.bytes))=some (some (.agg #[.int .u16 0,.int .u16 0]),2,4) by kernel_rfl);exact ⟨i,_,Tryz.underlying235,hi,h1,h2,h3,rfl,by decide,by decide⟩
abbrev OwnRn(w:World)(base:Nat)(v:Value)(xs:List Pr):Prop:=Own w base 277 2 rnV v xs
theorem clonern_any(A:Option Addr)(c:Nat)(xs:List Pr)(w:World)(h:Sl w 2 rnV A c xs)(hl:xs.length≤1000000000) :
 Calls Tryz.prog 247 #[.slice A xs.length c] w fun e w'=>∃ A' c',e=.returned (.slice A' xs.length c')∧OwnRn w' w.heap.size (.slice A' xs.length c') xs∧Keep w w':=by
 have hn:=fun W:World=>Lib.run_eql_slice_nil W 235 277 A xs.length c 0 0 Tryz.underlying235
 cases A with
 | none =>
   have hx:xs=[]:=by
    rcases xs with _ | ⟨y,r⟩
    ·rfl
    ·obtain ⟨_,_,hA,_⟩:=h.at_ 0 (by simp)
     cases hA
   subst hx;simp only [List.length_nil,Option.isNone_none] at hn ⊢;go_enter Tryz.func247,Tryz.ntmps247;go_wp2;go_ret;exact ⟨none,0,rfl,Own.nil_ _ _ _ _ _,Keep.refl _⟩
 | some ad =>
   have H:=lh h;clear h;go_enter Tryz.func247,Tryz.ntmps247;go_wp2_with (at_builtin;refine hold ?_);refine unhold ?_;have HO1:OwnRn (w.alloc (.cells #[] 277)) w.heap.size (.slice (some ⟨w.heap.size,0,none⟩) 0 0) ([]:List Pr):=World.ownsRow_made w #[] 0 (Nat.le_refl _) (by unfold maxLen;omega) rfl;refine wpList_app elt_rn rn_len rn_one rfl (.tmp 5) (.tmp 6) rfl (ys:=xs) HO1 rfl rfl (H.out.keep (by repeat first|exact kp0|apply kp1|apply kp2|apply kp3|apply kp4)) (by simp;omega) (by simp) ?_;intro v1 w1 hown1 hg1 _;have ⟨a1,a2,a3⟩:=HO1.after (w:=w) hg1 (by repeat first|exact kp0|apply kp1|apply kp2|apply kp3|apply kp4) (Nat.le_refl _);clear hn a2 a3;go_wp2;go_ret;simp only [List.nil_append] at hown1;obtain ⟨A',c',hv⟩:=own_form hown1;exact ⟨A',c',by rw [← hv];rfl,by rw [← hv];exact hown1,a1⟩
theorem getD_at(a:List Nat)(i:Nat)(h:i<a.length):a.getD i 0=a[i]:=by simp [h]
def Inc(a:List Nat):Prop:=∀ i,(h:i+1<a.length)→a[i]'(by omega)<a[i+1]
theorem amay_any(A:Option Addr)(c:Nat)(a:List Nat)(w:World)(h:Sl w 1 u16V A c a)(hi:Inc a)(hl:a.length≤65536) :
 Calls Tryz.prog 242 #[.slice A a.length c] w fun e w'=>e=.returned (.bool true)∧Keep w w':=by
 have H:=lh h;have HI:=lh hi;generalize hn:a.length=n at hl;have HN:=lh hn;clear h hi hn;go_enter Tryz.func242,Tryz.ntmps242;go_wp2;go_loopw [3] (fun vi wr=>∃ i:Nat,vi=.int .i64 i∧1≤i∧Hid (Keep w wr)) (fun vi _=>n-(intOf vi).toNat)
 case atStart=>exact ⟨1,rfl,Nat.le_refl _,Keep.refl _⟩
 case round =>
  obtain ⟨i,rfl,hi,HK⟩:=hrel
  by_cases hlt:i<n
  ·obtain ⟨q,hq⟩:∃ q,q+1=i:=⟨i-1,by omega⟩;have hq2:q<n:=by omega
   have hin:i<a.length:=by rw [HN.out];exact hlt
   have hle:=HI.out q (by omega);obtain ⟨b,off,hA,hb,h0⟩:=sl_u16 (H.out.keep HK.out) i hin;subst hA;obtain ⟨_,h1⟩:=sl_u16' (H.out.keep HK.out) q (by omega);have e1:IntKind.i64.wrap ((i:Int)-1)=(q:Int):=by rw [IntWalk.i64_in _ ⟨by omega,by omega⟩];omega
   simp only [hq] at hle;generalize a[q]'(by omega)=x at h1 hle;generalize a[i]=y at h0 hle;have hd:decide ((y:Int)≤(x:Int))=false:=by simp;omega
   have hd2:¬ (y:Int)≤(x:Int):=by omega
   clear hq hle;go_wp2
   first|refine Zone.wp_region_all_gro (by kernel_rfl) (by kernel_rfl) ?_|refine Zone.wp_region_all (by kernel_rfl) (by kernel_rfl) ?_
   repeat
    refine Zone.wpZ_step (fun K hK=>?_);go_simp
    first
    | (refine hK _ _ ?_;clear hK K)
    | (apply Exists.intro
       refine ⟨fun p=>?_,hK _ _ ?_⟩
       (fail)
       clear hK K)
   refine Zone.wpZ_nil ?_;intro p;simp only [Zone.fill];go_wp2;go_roundw
   case rel=>exact ⟨i+1,by go_num,by omega,HK.out.trans (by repeat first|exact kp0|apply kp1|apply kp2|apply kp3|apply kp4)⟩
   case measure=>simp [intOf];omega
  ·go_wp2;go_ret;exact ⟨rfl,HK.out⟩
theorem aruns_any(A:Option Addr)(c:Nat)(a:List Nat)(w:World)(h:Sl w 1 u16V A c a)(hb:∀ x∈a,x<64)(hl:a.length≤65536) :
 Calls Tryz.prog 273 #[.slice A a.length c] w fun e w'=>e=.returned (.int .i64 (Roa.arrRuns a a.length:Nat))∧Keep w w':=by
 have H:=lh h;have HB:=lh hb;generalize hn:a.length=n at hl;have HN:=lh hn;clear h hb hn;go_enter Tryz.func273,Tryz.ntmps273;go_wp2;go_loopw [3,8] (fun vn vi wr=>∃ k r:Nat,k≤n∧vi=.int .i64 k∧vn=.int .i64 r∧r≤k∧Hid (r=Roa.arrRuns a k)∧Hid (Keep w wr)) (fun _ vi _=>n-(intOf vi).toNat)
 case atStart=>exact ⟨0,0,Nat.zero_le _,rfl,rfl,Nat.le_refl _,rfl,Keep.refl _⟩
 case round =>
  obtain ⟨k,r,hk,rfl,rfl,hrk,HR,HK⟩:=hrel
  by_cases hlt:k<n
  ·have hkn:k<a.length:=by rw [HN.out];exact hlt
   obtain ⟨b,off,hA,hb,h0⟩:=sl_u16 (H.out.keep HK.out) k hkn;subst hA;have HST:=lh (show Roa.arrRuns a (k+1)=Roa.arrRuns a k+(if k=0∨a.getD k 0≠a.getD (k-1) 0+1 then 1 else 0) from rfl);have e2:IntKind.i64.wrap ((r:Int)+1)=((r+1:Nat):Int):=by rw [IntWalk.i64_in _ ⟨by omega,by omega⟩];omega
   by_cases h00:k=0
   ·subst h00;rw [Nat.add_zero] at h0;have HS2:=lh (show r+1=Roa.arrRuns a (0+1) by rw [HST.out,if_pos (.inl rfl),HR.out]);clear HST;go_wp2;go_roundw
    case rel=>exact ⟨0+1,r+1,by omega,by go_num,by go_num,by omega,HS2.out,HK.out⟩
    case measure=>simp [intOf];omega
   ·obtain ⟨q,hq⟩:∃ q,q+1=k:=⟨k-1,by omega⟩;have hq2:q<n:=by omega
    have hq3:q<a.length:=by omega
    obtain ⟨_,h1⟩:=sl_u16' (H.out.keep HK.out) q hq3;have hx:=HB.out a[q] (List.getElem_mem _);have hy:=HB.out a[k] (List.getElem_mem _);have HG:=lh (show a.getD k 0=a[k]∧a.getD (k-1) 0=a[q] from ⟨getD_at _ _ hkn,by rw [show k-1=q by omega];exact getD_at _ _ hq3⟩);have e1:IntKind.i64.wrap ((k:Int)-1)=(q:Int):=by rw [IntWalk.i64_in _ ⟨by omega,by omega⟩];omega
    have e00:((k:Int)==0)=false:=by simp;omega
    have e01:¬ (k:Int)=0:=by omega
    generalize a[q]=x at h1 hx HG;generalize a[k]=y at h0 hy HG;have e3:IntKind.u16.wrap ((x:Int)+1)=((x+1:Nat):Int):=by simp [IntKind.wrap,IntKind.signed,IntKind.bits];omega
    by_cases hxy:y=x+1
    ·have HS2:=lh (show r=Roa.arrRuns a (k+1) by rw [HST.out,if_neg (by rw [HG.out.1,HG.out.2];omega),HR.out];rfl);have e4:((y:Int)==((x+1:Nat):Int))=true:=by simp;omega
     have e5:((y:Int) != ((x+1:Nat):Int))=false:=by simp;omega
     have e6:(y:Int)=((x+1:Nat):Int):=by omega
     clear HST HG hq hxy h00;go_wp2;go_roundw
     case rel=>exact ⟨k+1,r,by omega,by go_num,by go_num,by omega,HS2.out,HK.out⟩
     case measure=>simp [intOf];omega
    ·have HS2:=lh (show r+1=Roa.arrRuns a (k+1) by rw [HST.out,if_pos (by rw [HG.out.1,HG.out.2];exact .inr hxy),HR.out]);have e4:((y:Int)==((x+1:Nat):Int))=false:=by simp;omega
     have e5:((y:Int) != ((x+1:Nat):Int))=true:=by simp;omega
     have e6:¬ (y:Int)=((x+1:Nat):Int):=by omega
     clear HST HG hq hxy h00;go_wp2;go_roundw
     case rel=>exact ⟨k+1,r+1,by omega,by go_num,by go_num,by omega,HS2.out,HK.out⟩
     case measure=>simp [intOf];omega
  ·have hkn:k=n:=by omega
   subst hkn;go_wp2;go_ret;exact ⟨ret_int (by rw [HR.out]),HK.out⟩
end Go.Proofs.YtpkocnpamcchcaaGreatDoor
