/- Parts. -/
import Derived.Test.YtpkocnpamcchcaaGreatDoorL02
set_option maxRecDepth 100000
set_option maxHeartbeats 40000000
set_option linter.all false
namespace Go.Sym
theorem yS{a:Type}{lt lt2:a->a->Bool}(x:a):∀(l:List a),(∀y∈l,lt y x=lt2 y x)->ft lt x l=ft lt2 x l
 | [],_=>rfl
 | y::r,h=>by
   unfold ft;rw[h y sP,yS x r λz hz=>h z (by simp[hz])]
theorem yr{c:Type}{lt lt2:c->c->Bool}:∀(l:List c),(∀a∈l,∀b∈l,lt a b=lt2 a b)->dO lt l=dO lt2 l
 | [],_=>rfl
 | x::r,h=>by
   unfold dO;rw[<-yr r λa ha b hb=>h a (by simp[ha]) b (by simp[hb])];exact yS x _ λy hy=>h y (Lm _ ((uu r).mem_iff.1 hy)) x sP
end Go.Sym
namespace Go.Star
theorem o6{g:Nat->Nat->List SR->Nat->List SR×List SN}{d tp n:Nat}(l:∀a e h n,∃x,(g a e h n).1=h++x):∀(f i:Nat) (k:List (Int×Nat)) (h:List SR) (j:List SN),
 (∃x,(dh g d tp n f i k h j).1=k++x)/\(∃y,(dh g d tp n f i k h j).2.1=h++y)/\(∃z,(dh g d tp n f i k h j).2.2=j++z)
 | 0,_,_,_,_=>⟨⟨[],by simp[dh]⟩,⟨[],by simp[dh]⟩,⟨[],by simp[dh]⟩⟩
 | f+1,i,k,h,j=>by
   unfold dh
   split
   ·simp only[];generalize eR h d (dr h i d) tp (tp-i) i=e;obtain⟨x,o⟩:=l i e h (n+1+j.length);obtain⟨⟨a,m⟩,⟨b,p⟩,⟨c,q⟩⟩:=o6 l f e (k++[(dr h i d,n+1+j.length)]) (g i e h (n+1+j.length)).1 (j++(g i e h (n+1+j.length)).2);exact⟨⟨_,by rw[m,lr]⟩,⟨x++b,by rw[p,o,lr]⟩,⟨_,by rw[q,lr]⟩⟩
   ·exact⟨⟨[],sP⟩,⟨[],sP⟩,⟨[],sP⟩⟩
theorem iw(leaf:Nat):∀(f c lo hi:Nat) (h:Bool) (b:List SR) (n:Nat),∃x,(bC leaf f c lo hi h b n).1=b++x
 | 0,_,_,_,_,b,_=>⟨[],by simp[bC]⟩
 | f+1,c,lo,hi,h,b,n=>by
   unfold bC
   split
   ·exact⟨[],sP⟩
   ·simp only[];obtain⟨_,⟨y,j⟩,_⟩:=o6 (g:=λa e b n=>bC leaf f (c+1) a e h b n) (d:=c) (tp:=hi) (n:=n) (λa e b n=>iw leaf f (c+1) a e h b n) (hi-lo) lo [] b []
    split
    ·exact⟨y,j⟩
    ·generalize bN _=i;obtain⟨z,k⟩:=iw leaf f (c+1) (dh (λa e b n=>bC leaf f (c+1) a e h b n) c hi n (hi-lo) lo [] b []).2.1.length ((dh (λa e b n=>bC leaf f (c+1) a e h b n) c hi n (hi-lo) lo [] b []).2.1.length+i.length) true ((dh (λa e b n=>bC leaf f (c+1) a e h b n) c hi n (hi-lo) lo [] b []).2.1++i) (n+1+(dh (λa e b n=>bC leaf f (c+1) a e h b n) c hi n (hi-lo) lo [] b []).2.2.length);refine⟨y++(i++z),?_⟩;simp only[k];rw[j];simp
theorem xt:∀ns:List SN,13*ns.length<=wN ns
 | []=>by simp[wN]
 | x::r=>by
   have:=xt r;rw[pG];simp only[lw];omega
theorem sR(leaf k:Nat)(c:1<=leaf)(e:k<=8)(a:List SR)(n:a.length<=1000):(bC leaf k 0 0 a.length false a 0).1.length<=1000000/\(bC leaf k 0 0 a.length false a 0).2.length<=1000000:=by
 have b:=sS leaf 0 0 c k 0 0 a.length a 0 (lj _) (lc _);obtain⟨x,d,l⟩:=b.pre;have h:=b.wt;have j:=xt (bC leaf k 0 0 a.length false a 0).2;have m:(a.length-0)*k<=1000*8:=Ln oM e;have f:=rm k;have g:(k+1)*(k+1)<=9*9:=Ln oM oM;have i:(a.length-0)*iZ k<=1000*81:=Ln oM oM;refine⟨?_,oM⟩;rw[d,lg];omega
def upd(ys xs:List (Int×Int×Int))(i:Nat):List (Int×Int×Int):=List.zipWith jI (ys.take i) (xs.take i)++ys.drop i
theorem FK(ys xs:List (Int×Int×Int)):upd ys xs 0=ys:=by simp[upd]
theorem FN(ys xs:List (Int×Int×Int))(h:xs.length=ys.length)(i:Nat):(upd ys xs i).length=ys.length:=by
 simp[upd];omega
theorem FO(ys xs:List (Int×Int×Int))(h:xs.length=ys.length)(i:Nat)(hi:i<ys.length):(upd ys xs i)[i]? =some ys[i]:=by
 unfold upd;rw[LE sO];simp only[List.length_zipWith,lD,List.getElem?_drop];rw[show i+(i-min (min i ys.length) (min i xs.length))=i from oM];exact lu hi
theorem FM(ys xs:List (Int×Int×Int))(b:xs.length=ys.length)(i:Nat)(hi:i<ys.length)(a:i<xs.length):upd ys xs (i+1)=(upd ys xs i).set i (jI ys[i] xs[i]):=by
 unfold upd;rw[ly hi,ly a,List.zipWith_append sO];rw[Lg _ _ sO];simp only[List.length_zipWith,lD];rw[show i-min (min i ys.length) (min i xs.length)=0 from oM];simp only[lr,List.zipWith_cons_cons,List.zipWith_nil_left];rw[Lh hi,List.set_cons_zero];rfl
theorem FP(ys xs:List (Int×Int×Int))(h:xs.length=ys.length):upd ys xs xs.length=List.zipWith jI ys xs:=by
 unfold upd;rw[lM oM,lM oM,List.drop_of_length_le oM,lT]
theorem Gh(S:List SR)(k:Nat)(h:k<S.length)(o:List SR):(S.take (k+1)).foldl eF o=eF ((S.take k).foldl eF o) S[k]:=by
 rw[ly h,List.foldl_append];rfl
theorem Dt(b:List SR)(d:Nat)(a:Int)(tt e:Nat)(c:e<tt)(hi:dr b e d=a):eR b d a tt (tt-e) e=eR b d a tt (tt-(e+1)) (e+1):=by
 rw[show tt-e=tt-(e+1)+1 from oM]
 conv=>lhs;unfold eR
 rw[if_pos ⟨c,hi⟩]
theorem wG(f:List SR)(d:Nat)(c:Int)(tt e:Nat)(a:e=tt\/dr f e d≠c):eR f d c tt (tt-e) e=e:=by
 rcases Nat.eq_zero_or_pos (tt-e) with b|b
 ·rw[b];rfl
 ·rw[show tt-e=tt-e-1+1 from oM];unfold eR;rw[if_neg (λ⟨h1,h2⟩=>a.elim (λa=>oM) (λa=>a h2))]
end Go.Star
namespace Go.Sym
section
variable {α:Type} {lt:α->α->Bool}
def jb(lt:α->α->Bool)(x:α):List α->List α
 | []=>[x]
 | y::r=>if lt x y then x::y::r else y::jb lt x r
theorem zE(c:cF lt)(x:α):∀L,bO lt L->∃P Q,L=P++Q/\jb lt x L=P++[x]++Q/\(∀y∈P,lt x y=false)/\(∀y∈Q,lt x y=true)
 | [],_=>⟨[],[],rfl,rfl,(λ_ h=>by cases h),λ_ h=>by cases h⟩
 | y::r,h=>by
   unfold jb;have b:=Lo.1 h
   cases e:lt x y
   ·obtain⟨P,Q,f,g,i,d⟩:=zE c x r b.2;refine⟨y::P,Q,by rw[f];rfl,by simp[g],λz a=>?_,d⟩
    rcases ln.1 a with rfl|a
    ·exact e
    ·exact i z a
   ·refine⟨[],y::r,rfl,sP,(λ_ h=>by cases h),λz a=>?_⟩
    rcases ln.1 a with rfl|a
    ·exact e
    ·exact c.lt_le e (b.1 z a)
theorem I4(a:cF lt)(xs:List α)(x:α):dO lt (xs++[x])=jb lt x (dO lt xs):=by
 have b:=mq a xs;obtain⟨P,Q,d,e,f,c⟩:=zE a x _ b.1;rw[d]at b;rw[e];exact(rB a (zD a b c f)).symm
end
end Go.Sym
namespace Go.Star
open Go.Sym
def eu(x:SR):List SR->List SR
 | []=>[x]
 | y::r=>if y.ids=x.ids then y.add x::r else if dk x y then x::y::r else y::eu x r
def eG(a:SR):List SR->List SR
 | []=>[a]
 | y::r=>if a.ids=y.ids then eG (a.add y) r else a::eG y r
theorem uO:∀(r a:List SR) (b:SR),r.foldl eF (a++[b])=a++eG b r
 | [],_,_=>rfl
 | y::r,a,b=>by
   rw[List.foldl_cons];have e:eF (a++[b]) y=if b.ids=y.ids then a++[b.add y] else a++[b]++[y]:=by
     unfold eF;rw[List.getLast?_concat];simp only[List.dropLast_concat]
   rw[e];unfold eG
   split
   ·exact uO r a _
   ·rw[uO r (a++[b]) y,lr];rfl
theorem uN:∀(r:List SR) (a:SR),∃h t,eG a r=h::t/\h.ids=a.ids
 | [],a=>⟨a,[],rfl,rfl⟩
 | y::r,a=>by
   unfold eG
   split
   ·exact uN r (a.add y)
   ·exact⟨a,_,rfl,rfl⟩
theorem sx{x y:SR}(h:dk x y=true):x.ids≠y.ids:=λe=>by
 unfold dk at h;rw[e,qq]at h
 cases h
theorem Az{x y:SR}{l:List SR}(b:dk x y=true)(d:∃a t,l=a::t/\a.ids=y.ids):eu x l=x::l:=by
 obtain⟨a,t,rfl,c⟩:=d;unfold eu;rw[if_neg (λe=>sx b (by rw[<-e,c])),if_pos (by unfold dk at *;rw[c];exact b)]
theorem uL(x:SR):∀(r:List SR) (a:SR),dk x a=false->(∀y∈r,dk y a=false)->bO dk r->eG a (jb dk x r)=eu x (eG a r)
 | [],a,hx,_,_=>by
   unfold jb eG;unfold eG eu
   split
   ·rfl
   ·rw[if_neg (by rw[hx];simp)];rfl
 | y::r,a,hx,hy,hs=>by
   have c:=Lo.1 hs;have f:=hy y sP
   by_cases e:a.ids=y.ids
   ·have b:dk x y=false:=(by unfold dk at *;rw[<-e];exact hx);rw[jb,if_neg (by rw[b];simp),eG,if_pos e,eG,if_pos e];exact uL x r (a.add y) hx (λz hz=>by
     have:=c.1 z hz;unfold dk at *;rw[<-e]at this;exact this) c.2
   ·have i:dk a y=true:=by
     cases h:dk a y
     ·exact absurd (vK _ _ h f) e
     ·rfl
    rw[show eG a (y::r)=a::eG y r by rw[eG,if_neg e]]
    cases b:dk x y
    ·have g:dk a x=true:=oV.lt_le i b;rw[jb,if_neg (by rw[b];simp),eG,if_neg e,uL x r y b c.1 c.2];rw[show eu x (a::eG y r)=a::eu x (eG y r) by rw[eu,if_neg (sx g),if_neg (by rw[hx];simp)]]
    ·rw[jb,if_pos b]
     by_cases d:a.ids=x.ids
     ·rw[eG,if_pos d,eG,if_neg (show(a.add x).ids≠y.ids from e),eu,if_pos d]
     ·rw[eG,if_neg d,eG,if_neg (sx b),eu,if_neg d,if_neg (by rw[hx];simp),Az b (uN r y)]
theorem Js(x:SR)(b:List SR)(e:bO dk b):(jb dk x b).foldl eF []=eu x (b.foldl eF []):=by
 cases b with
 | nil=>rfl
 | cons y r =>
   have d:=Lo.1 e;have c:∀(a:SR) (l:List SR),(a::l).foldl eF []=eG a l:=λa l=>uO l [] a;rw[c]
   cases hxy:dk x y
   ·rw[jb,if_neg (by rw[hxy];simp),c];exact uL x r y hxy d.1 d.2
   ·rw[jb,if_pos hxy,c,eG,if_neg (sx hxy),Az hxy (uN r y)]
theorem Aw(xs:List SR)(x:SR):bN (xs++[x])=eu x (bN xs):=by
 unfold bN;rw[I4 oV];exact Js x _ (mq oV xs).1
def Z8(k:Nat)(x:SR):Prop:=x.ids.length=8/\x.ids.drop k=List.replicate (8-k) 0
theorem Z8.parts{k:Nat}{x:SR}(h:Z8 k x):x.ids=x.ids.take k++List.replicate (8-k) 0:=by
 rw[<-h.2,Ls]
theorem B7:∀(a b z:List Int),a.length=b.length->eK (a++z) (b++z)=eK a b
 | [],[],z,_=>by simp[qq,eK]
 | a::r,b::s,z,h=>by
   simp only[List.cons_append,eK];rw[B7 r s z (by simpa using h)]
 | [],_::_,_,h=>by simp at h
 | _::_,[],_,h=>by simp at h
theorem Z8.lex{k:Nat}{x y:SR}(a:Z8 k x)(b:Z8 k y)(c:k<=8):eK (x.ids.take k) (y.ids.take k)=dk x y:=by
 unfold dk;rw[a.parts,b.parts,B7 _ _ _ (by simp[a.1,b.1])]
 congr 1
 ·rw[LG (by simp[a.1];omega),List.take_take,Nat.min_self]
 ·rw[LG (by simp[b.1];omega),List.take_take,Nat.min_self]
theorem Z8.eq{k:Nat}{x y:SR}(a:Z8 k x)(b:Z8 k y):x.ids.take k=y.ids.take k<->x.ids=y.ids :=
 ⟨λe=>by rw[a.parts,b.parts,e],λe=>by rw[e]⟩
theorem Z8.add{k:Nat}{x y:SR}(h:Z8 k y):Z8 k (y.add x):=h
theorem Z8.star{k d:Nat}{x:SR}(a:Z8 k x)(b:d<k):Z8 k (dw d x):=by
 refine⟨by simp[dw,a.1],?_⟩;rw[<-a.2];simp[dw,List.drop_set,b]
end Go.Star
