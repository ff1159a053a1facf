/- Parts. -/
import Derived.Test.YtpkocnpamcchcaaGreatDoorL27
set_option maxRecDepth 100000
set_option maxHeartbeats 40000000
set_option linter.all false
namespace Go.Proofs.YtpkocnpamcchcaaGreatDoor
open Go.RowKit Go.Zone Go.Shelf Tryz Go.Roa Go.Star Go.Sym
theorem cQ.grown{e W':World}{base k m b:Nat}{r:Rd}{x:Star.SR}{v:Value}{xs:List Rd}(a:cQ e base k m r x)(d:ah e b 112 5 (Rd.cells k m) v xs)(c:e.grownBy W' v.ownBlock):cQ W' base k m r x :=
 ⟨ah.grown a.ids c (cN d a.ids dC),a.z,a.n,a.len,ah.grown a.s c (cN d a.s dC),ah.grown a.l c (cN d a.l dC),ah.grown a.g c (cN d a.g dC)⟩
theorem oN{b:World}{base k m:Nat}{r:Rd}{x:Star.SR}{Q:List (Rd×Star.SR)}(c:∀p∈Q,cQ b base k m p.1 p.2)(d:cQ b base k m r x):∀p∈Q++[(r,x)],cQ b base k m p.1 p.2:=λp a=>by
 rcases lx.1 a with a|a
 ·exact c p a
 ·rw[lm]at a;subst a;exact d
theorem ow{W:World}{g k m:Nat}(r:Rd)(c:Nat:=1)(h0:W.cell? ⟨g,0,none⟩=some (.slice r.iA k r.iK))(h1:W.cell? ⟨g,1,none⟩=some (.int .i64 r.n))(h2:W.cell? ⟨g,2,none⟩=some (.slice r.sA m r.sK))(h3:W.cell? ⟨g,3,none⟩=some (.slice r.lA m r.lK))(h4:W.cell? ⟨g,4,none⟩=some (.slice r.gA m r.gK))(hc:1<=c:=by decide)(hc2:c<=9223372036854775807:=by decide):Sl W 5 (Rd.cells k m) (some ⟨g,0,none⟩) c [r] :=
 br _ hc hc2 (λj u hu=>by
  match j,hu with
  | 0,hu=>cases hu;exact h0
  | 1,hu=>cases hu;exact h1
  | 2,hu=>cases hu;exact h2
  | 3,hu=>cases hu;exact h3
  | 4,hu=>cases hu;exact h4)
theorem rG{a:World}{k m c:Nat}{A:Option Addr}{xs:List Rd}(g:Sl a 5 (Rd.cells k m) A c xs)(i:Nat)(hi:i<xs.length):∃b d,A=some ⟨b,d,none⟩/\b<a.heap.size/\a.cell? ⟨b,d+i*5,none⟩=some (.slice xs[i].iA k xs[i].iK)/\a.cell? ⟨b,d+i*5+1,none⟩=some (.int .i64 xs[i].n)/\a.cell? ⟨b,d+i*5+2,none⟩=some (.slice xs[i].sA m xs[i].sK)/\a.cell? ⟨b,d+i*5+3,none⟩=some (.slice xs[i].lA m xs[i].lK)/\a.cell? ⟨b,d+i*5+4,none⟩=some (.slice xs[i].gA m xs[i].gK):=by
 obtain⟨b,d,h,e⟩:=g.at_ i hi;have f:=e 0 _ rfl;exact⟨b,d,h,World.block_lt_of_cell? a _ f,f,e 1 _ rfl,e 2 _ rfl,e 3 _ rfl,e 4 _ rfl⟩
theorem Jr(x:Star.SR){y:Star.SR}{l:List Star.SR}(h:y.ids=x.ids):eu x (y::l)=y.add x::l:=by rw[eu,if_pos h]
theorem Jv(x:Star.SR){y:Star.SR}{l:List Star.SR}(a:y.ids≠x.ids)(b:dk x y=true):eu x (y::l)=x::y::l:=by rw[eu,if_neg a,if_pos b]
theorem Jt(x:Star.SR){y:Star.SR}{l:List Star.SR}(a:y.ids≠x.ids)(b:dk x y=false):eu x (y::l)=y::eu x l:=by rw[eu,if_neg a,if_neg (by rw[b];simp)]
theorem zj(k m base:Nat)(A:Option Addr)(c:Nat)(P:List (Rd×Star.SR))(r:Rd)(x:Star.SR)(w:World)(G:Sl w 5 (Rd.cells k m) A c (P.map (·.1)))(aV:∀p∈P,cQ w base k m p.1 p.2)(b4:cQ w base k m r x)(bh:1<=k)(aO:k<=8)(bj:m<=1000)(bi:P.length<=1000000)(aW:base<=w.heap.size) :
 Calls prog 51 #[.slice A P.length c,r.v k m] w λe w'=>∃(v:Value) (Q:List (Rd×Star.SR)),e=.returned v/\ah w' w.heap.size 112 5 (Rd.cells k m) v (Q.map (·.1))/\(∀p∈Q,cQ w' base k m p.1 p.2)/\Q.map (·.2)=eu x (P.map (·.2))/\aa w w':=by
 have b6:=lh G;have bb:=lh aV;have U:=lh b4;have aY:=G.cap;rw[ld]at aY;generalize b2:P.length=n at bi aY;have aL:=lh b2;have b7:=lh aW;clear G aV b4 b2 aW;unfold Rd.v;go_enter func51,ntmps51;go_upto_region 3 with fail;generalize aK:World.alloc w _=F;have aX:ak F w.heap.size 112 (r.cells k m):=by rw[<-aK];exact bH w 112 (r.cells k m)
 have b1:aa w F:=by rw[<-aK];exact aa.alloc (aa.refl _) _
 have bk:F.heap.size=w.heap.size+1:=by rw[<-aK,World.size_alloc]
 have f:=lh aX;have t:=lh b1;clear aK aX b1 bk;go_wp2;go_loopw [5,6,7] (λvo vd vi wr=>∃(i:Nat) (aP:Value) (d:Bool) (Q:List (Rd×Star.SR)),i<=n/\vi=.int .i64 i/\vd=.bool d/\aP=vo/\Hid (ah wr F.heap.size 112 5 (Rd.cells k m) aP (Q.map (·.1)))/\Hid (∀p∈Q,cQ wr base k m p.1 p.2)/\Hid (Q.map (·.2)++(if d=true then (P.drop i).map (·.2) else eu x ((P.drop i).map (·.2)))=eu x (P.map (·.2)))/\Q.length<=i+d.toNat/\Hid (aa F wr)) (λ_ _ vi _=>n-(intOf vi).toNat)
 case atStart=>exact⟨0,_,false,[],lj _,rfl,rfl,rfl,ah.nil_ _ _ _ _ _,(λ_ G=>by cases G),(by show _=_;simp),sP,kP⟩
 case round =>
  obtain⟨i,aP,d,Q,hi,rfl,rfl,rfl,a9,ac,a2,ax,C⟩:=hrel
  by_cases b0:i<n
  ·have aZ:i<(P.map (·.1)).length:=(by rw[ld,aL.o];exact b0);have aN:i<P.length:=(by rw[aL.o];exact b0);obtain⟨aB,aE,bg,ap,aF,p1,p2,aG,aH⟩:=rG b6.o i aZ;rw[Lj]at aF p1 p2 aG aH;have H:=lh (bb.o P[i] (ll aN));have aI:=lh (show(P.drop i).map (·.2)=P[i].2::(P.drop (i+1)).map (·.2) by rw[Lh aN];rfl);subst bg;generalize P[i]=bl at aF p1 p2 aG aH H aI;obtain⟨h,y⟩:=bl;simp only at aF p1 p2 aG aH H aI;have ab:=lh (λW (hW:aa F W)=>And.intro (lp ap (t.o.trans hW).size) (And.intro (((t.o.trans hW).cell (p:=⟨aB,aE+i*5,none⟩) ap).trans aF) (And.intro (((t.o.trans hW).cell (p:=⟨aB,aE+i*5+1,none⟩) ap).trans p1) (And.intro (((t.o.trans hW).cell (p:=⟨aB,aE+i*5+2,none⟩) ap).trans p2) (And.intro (((t.o.trans hW).cell (p:=⟨aB,aE+i*5+3,none⟩) ap).trans aG) (((t.o.trans hW).cell (p:=⟨aB,aE+i*5+4,none⟩) ap).trans aH))))));clear aZ aN ap aF p1 p2 aG aH;obtain⟨V,X,Y,Z,a0,a1⟩:=ab.o _ C.o;have N:=(f.o.keep C.o).cell 0 _ rfl;have O:=(f.o.keep C.o).cell 1 _ rfl;have R:=(f.o.keep C.o).cell 2 _ rfl;have S:=(f.o.keep C.o).cell 3 _ rfl;have T:=(f.o.keep C.o).cell 4 _ rfl;have L:=(f.o.keep C.o).lt
   cases d
   ·rw[if_neg dC,aI.o]at a2
    replace ax:Q.length<=i:=by simpa using ax
    by_cases ad:y.ids=x.ids
    ·have af:=Jr x (l:=(P.drop (i+1)).map (·.2)) ad;rw[af]at a2;have a3:=lh (λW (hW:aa F W)=>show Rt 96 #[.slice h.iA k h.iK,.slice r.iA k r.iK] W (.bool true) from by
      obtain⟨aq,s1⟩:=jx ((H.o.ids.keep t.o).keep hW) (by simp[H.o.z.1];omega);obtain⟨au,s2⟩:=jx ((U.o.ids.keep t.o).keep hW) (by simp[U.o.z.1];omega);have G:=Ey h.iA r.iA h.iK r.iK (y.ids.take k) (x.ids.take k) W s1 s2 oM;rw[<-aq,<-au]at G;exact G.mono λe w' he=>⟨he.1.trans (by congr 2;rw[(H.o.z.eq U.o.z).2 ad];simp),he.2⟩)
     clear af ad;go_upto_region 6 with fail;refine zR kR ?_
     repeat
      refine aR (λK hK=>?_);go_simp
      first
      | (refine hK _ _ ?_;clear hK K)
      | (apply Exists.intro
         refine⟨λp=>?_,hK _ _ ?_⟩
         ((go_at_call 96;exact Zone.zc (a3.o _ (C.o.trans kP))))
         clear hK K)
     refine bG ?_;intro p;simp only[aj];clear a3;have o:aa wr (wr.gro p):=kP;generalize wr.gro p=I at o|-;have a6:=lh (a9.o.keep o);have a7:=lh (λp hp=>(ac.o p hp).keep o:∀p∈Q,cQ I base k m p.1 p.2);have j:=C.u o;clear o a9 ac C;clear V X Y Z a0 a1 N O R S T L;obtain⟨V,X,Y,Z,a0,a1⟩:=ab.o _ j.o;have N:=(f.o.keep j.o).cell 0 _ rfl;have O:=(f.o.keep j.o).cell 1 _ rfl;have R:=(f.o.keep j.o).cell 2 _ rfl;have S:=(f.o.keep j.o).cell 3 _ rfl;have T:=(f.o.keep j.o).cell 4 _ rfl;have L:=(f.o.keep j.o).lt;have aS:=lh (λW (hW:aa I W)=>merge_any k m base h r y x W (H.o.keep (t.o.trans (j.o.trans hW))) (U.o.keep (t.o.trans (j.o.trans hW))) bh aO bj (lk b7.o (t.o.trans (j.o.trans hW)).size));go_upto_region 7 with fail;refine zN 8 kR ?_;simp only[lX,lR,lZ,L4]
     repeat
      refine aR (λK hK=>?_);go_simp
      first
      | (refine hK _ _ ?_;clear hK K)
      | (apply Exists.intro
         refine⟨λp=>?_,hK _ _ ?_⟩
         (fail)
         clear hK K)
     refine bW 32 (λu W=>∃B:Rd,u=.agg #[.slice B.iA k B.iK,.int .i64 B.n,.slice B.sA m B.sK,.slice B.lA m B.lK,.slice B.gA m B.gK]/\cQ W base k m B (y.add x)) rfl (λ_ _ _ aw ⟨B,h1,h2⟩=>⟨B,h1,h2.keep aw⟩) ?_ ?_
     ·intro p;rw[bZ (by rfl)];simp only[aj];go_simp;go_at_call 97;refine(aS.o _ kP).mono ?_;rintro e aQ ⟨B,rfl,ag,aw⟩;exact⟨_,rfl,⟨B,rfl,ag⟩,aw⟩
     refine bW 33 (λu W=>∃(g:Nat) (B:Rd),u=.slice (some ⟨g,0,none⟩) 1 1/\Sl W 5 (Rd.cells k m) (some ⟨g,0,none⟩) 1 [B]/\cQ W base k m B (y.add x)) rfl (λ_ _ _ aw ⟨g,B,h1,h2,h3⟩=>⟨g,B,h1,h2.keep aw,h3.keep aw⟩) ?_ ?_
     ·refine rp (d:=32) (by rfl) (λp v hv=>?_);obtain⟨B,rfl,ag⟩:=hv;have bf:=lh ag;clear ag;rw[if_pos (by rfl)];unfold av;go_simp;exact⟨⟨B,ow _ _ sG sG sG sG sG,bf.o.keep (aa.alloc (aa.refl _) _)⟩,aa.alloc (aa.refl _) _⟩
     refine bG ?_;intro p;simp only[aj];rintro bp ⟨g,B,rfl,b3,ag⟩ bo -;have aC:aa I (I.gro p):=ce _ _;generalize I.gro p=ay at b3 ag aC|-;have s:=lh (a6.o.keep aC);have J:=lh (oN (λp hp=>(a7.o p hp).keep aC) ag);have D:=j.u aC;clear ag aC aS a6 a7 j;clear V X Y Z a0 a1 N O R S T L;refine aD nO (iM k m) (nD k m) rfl (.tmp 26) (.tmp 33) rfl (ys:=[B]) s.o rfl rfl b3 sO D.o.size ?_;intro a4 b5 M E _;have ⟨am,_,_⟩:=s.o.after (w:=F) E D.o (lc _);have ba:=lh (show ah b5 F.heap.size 112 5 (Rd.cells k m) a4 ((Q++[(B,y.add x)]).map (·.1)) by rw[lz];exact M);have bc:=lh (show ∀p∈Q++[(B,y.add x)],cQ b5 base k m p.1 p.2 from λp hp=>(J.o p hp).grown s.o E);have b9:=lh am;clear M E am s J D;go_wp2;go_roundw
     case rel=>exact⟨i+1,_,true,Q++[(B,y.add x)],oM,by go_num,rfl,rfl,ba.o,bc.o,(by show _=_;rw[<-a2.o];simp),sO,b9.o⟩
     case measure=>simp[intOf];omega
    ·have a3:=lh (λW (hW:aa F W)=>show Rt 96 #[.slice h.iA k h.iK,.slice r.iA k r.iK] W (.bool false) from by
      obtain⟨aq,s1⟩:=jx ((H.o.ids.keep t.o).keep hW) (by simp[H.o.z.1];omega);obtain⟨au,s2⟩:=jx ((U.o.ids.keep t.o).keep hW) (by simp[U.o.z.1];omega);have G:=Ey h.iA r.iA h.iK r.iK (y.ids.take k) (x.ids.take k) W s1 s2 oM;rw[<-aq,<-au]at G;exact G.mono λe w' he=>⟨he.1.trans (by congr 2;simpa using λe=>ad ((H.o.z.eq U.o.z).1 e)),he.2⟩)
     go_upto_region 6 with fail;refine zR kR ?_
     repeat
      refine aR (λK hK=>?_);go_simp
      first
      | (refine hK _ _ ?_;clear hK K)
      | (apply Exists.intro
         refine⟨λp=>?_,hK _ _ ?_⟩
         ((go_at_call 96;exact Zone.zc (a3.o _ (C.o.trans kP))))
         clear hK K)
     refine bG ?_;intro p;simp only[aj];clear a3;have o:aa wr (wr.gro p):=kP;generalize wr.gro p=I at o|-;have a6:=lh (a9.o.keep o);have a7:=lh (λp hp=>(ac.o p hp).keep o:∀p∈Q,cQ I base k m p.1 p.2);have j:=C.u o;clear o a9 ac C;clear V X Y Z a0 a1 N O R S T L;obtain⟨V,X,Y,Z,a0,a1⟩:=ab.o _ j.o;have N:=(f.o.keep j.o).cell 0 _ rfl;have O:=(f.o.keep j.o).cell 1 _ rfl;have R:=(f.o.keep j.o).cell 2 _ rfl;have S:=(f.o.keep j.o).cell 3 _ rfl;have T:=(f.o.keep j.o).cell 4 _ rfl;have L:=(f.o.keep j.o).lt
     cases hlt:dk x y
     ·have af:=Jt x (l:=(P.drop (i+1)).map (·.2)) ad hlt;rw[af]at a2;have a3:=lh (λW (hW:aa F W)=>show Rt 98 #[.slice r.iA k r.iK,.slice h.iA k h.iK] W (.bool false) from by
       obtain⟨aq,s1⟩:=jx ((H.o.ids.keep t.o).keep hW) (by simp[H.o.z.1];omega);obtain⟨au,s2⟩:=jx ((U.o.ids.keep t.o).keep hW) (by simp[U.o.z.1];omega);have G:=B8 r.iA h.iA r.iK h.iK (x.ids.take k) (y.ids.take k) W s2 s1 oM;rw[<-aq,<-au]at G;exact G.mono λe w' he=>⟨he.1.trans (by congr 2;rw[U.o.z.lex H.o.z aO];exact hlt),he.2⟩)
      clear af ad hlt;go_upto_region 9 with fail;refine zR kR ?_
      repeat
       refine aR (λK hK=>?_);go_simp
       first
       | (refine hK _ _ ?_;clear hK K)
       | (apply Exists.intro
          refine⟨λp=>?_,hK _ _ ?_⟩
          ((go_at_call 98;exact Zone.zc (a3.o _ (j.o.trans kP))))
          clear hK K)
      refine bG ?_;intro p;simp only[aj];clear a3;have o:aa I (I.gro p):=kP;generalize I.gro p=ay at o|-;have az:=lh (a6.o.keep o);have aA:=lh (λp hp=>(a7.o p hp).keep o:∀p∈Q,cQ ay base k m p.1 p.2);have q:=j.u o;clear o a6 a7 j;clear V X Y Z a0 a1 N O R S T L;obtain⟨V,X,Y,Z,a0,a1⟩:=ab.o _ q.o;have N:=(f.o.keep q.o).cell 0 _ rfl;have O:=(f.o.keep q.o).cell 1 _ rfl;have R:=(f.o.keep q.o).cell 2 _ rfl;have S:=(f.o.keep q.o).cell 3 _ rfl;have T:=(f.o.keep q.o).cell 4 _ rfl;have L:=(f.o.keep q.o).lt;go_wp2_with (at_builtin;refine ae ?_);refine ar ?_;have s:=lh (az.o.keep (aa.alloc (aa.refl _) (.cells ((h).cells k m).toArray 112)));have J:=lh (oN (r:=h) (x:=y) (λp hp=>(aA.o p hp).keep (aa.alloc (aa.refl _) (.cells ((h).cells k m).toArray 112))) ((H.o.keep (t.v q)).keep (aa.alloc (aa.refl _) (.cells ((h).cells k m).toArray 112))));have D:=lh (q.o.trans (aa.alloc (aa.refl _) (.cells ((h).cells k m).toArray 112)));refine aD nO (iM k m) (nD k m) rfl (.tmp 51) (.tmp 56) rfl (ys:=[h]) s.o rfl rfl (ow _ _ sG sG sG sG sG) sO D.o.size ?_;intro a4 a5 M E _;have ⟨am,_,_⟩:=s.o.after (w:=F) E D.o (lc _);have al:=lh (show ah a5 F.heap.size 112 5 (Rd.cells k m) a4 ((Q++[(h,y)]).map (·.1)) by rw[lz];exact M)
      have ao:=lh (show ∀p∈Q++[(h,y)],cQ a5 base k m p.1 p.2 from λp hp=>(J.o p hp).grown s.o E);have ai:=lh am;clear M E am s J D;go_wp2;go_roundw
      case rel=>exact⟨i+1,_,false,_,oM,by go_num,rfl,rfl,al.o,ao.o,(by show _=_;rw[<-a2.o];simp),sO,ai.o⟩
      case measure=>simp[intOf];omega
     ·have af:=Jv x (l:=(P.drop (i+1)).map (·.2)) ad hlt;rw[af]at a2;have a3:=lh (λW (hW:aa F W)=>show Rt 98 #[.slice r.iA k r.iK,.slice h.iA k h.iK] W (.bool true) from by
       obtain⟨aq,s1⟩:=jx ((H.o.ids.keep t.o).keep hW) (by simp[H.o.z.1];omega);obtain⟨au,s2⟩:=jx ((U.o.ids.keep t.o).keep hW) (by simp[U.o.z.1];omega);have G:=B8 r.iA h.iA r.iK h.iK (x.ids.take k) (y.ids.take k) W s2 s1 oM;rw[<-aq,<-au]at G;exact G.mono λe w' he=>⟨he.1.trans (by congr 2;rw[U.o.z.lex H.o.z aO];exact hlt),he.2⟩)
      clear af ad hlt;go_upto_region 9 with fail;refine zR kR ?_
      repeat
       refine aR (λK hK=>?_);go_simp
       first
       | (refine hK _ _ ?_;clear hK K)
       | (apply Exists.intro
          refine⟨λp=>?_,hK _ _ ?_⟩
          ((go_at_call 98;exact Zone.zc (a3.o _ (j.o.trans kP))))
          clear hK K)
      refine bG ?_;intro p;simp only[aj];clear a3;have o:aa I (I.gro p):=kP;generalize I.gro p=ay at o|-;have az:=lh (a6.o.keep o);have aA:=lh (λp hp=>(a7.o p hp).keep o:∀p∈Q,cQ ay base k m p.1 p.2);have q:=j.u o;clear o a6 a7 j;clear V X Y Z a0 a1 N O R S T L;obtain⟨V,X,Y,Z,a0,a1⟩:=ab.o _ q.o;have N:=(f.o.keep q.o).cell 0 _ rfl;have O:=(f.o.keep q.o).cell 1 _ rfl;have R:=(f.o.keep q.o).cell 2 _ rfl;have S:=(f.o.keep q.o).cell 3 _ rfl;have T:=(f.o.keep q.o).cell 4 _ rfl;have L:=(f.o.keep q.o).lt;go_wp2_with (at_builtin;refine ae ?_);refine ar ?_;have s:=lh (az.o.keep (aa.alloc (aa.refl _) (.cells ((r).cells k m).toArray 112)));have J:=lh (oN (r:=r) (x:=x) (λp hp=>(aA.o p hp).keep (aa.alloc (aa.refl _) (.cells ((r).cells k m).toArray 112))) ((U.o.keep (t.v q)).keep (aa.alloc (aa.refl _) (.cells ((r).cells k m).toArray 112))));have D:=lh (q.o.trans (aa.alloc (aa.refl _) (.cells ((r).cells k m).toArray 112)));refine aD nO (iM k m) (nD k m) rfl (.tmp 47) (.tmp 49) rfl (ys:=[r]) s.o rfl rfl (ow _ _ sG sG sG sG sG) sO D.o.size ?_;intro a4 aQ M E _;have ⟨am,_,_⟩:=s.o.after (w:=F) E D.o (lc _);have aT:=lh (show ah aQ F.heap.size 112 5 (Rd.cells k m) a4 ((Q++[(r,x)]).map (·.1)) by rw[lz];exact M)
      have aU:=lh (show ∀p∈Q++[(r,x)],cQ aQ base k m p.1 p.2 from λp hp=>(J.o p hp).grown s.o E);have a8:=lh am;clear M E am s J D;clear V X Y Z a0 a1 N O R S T L;obtain⟨V,X,Y,Z,a0,a1⟩:=ab.o _ a8.o;have N:=(f.o.keep a8.o).cell 0 _ rfl;have O:=(f.o.keep a8.o).cell 1 _ rfl;have R:=(f.o.keep a8.o).cell 2 _ rfl;have S:=(f.o.keep a8.o).cell 3 _ rfl;have T:=(f.o.keep a8.o).cell 4 _ rfl;have L:=(f.o.keep a8.o).lt;obtain⟨Q',aJ⟩:∃Q',Q'=Q++[(r,x)]:=⟨_,rfl⟩;have bd:=lh (show Q.map (·.2)++[x]=Q'.map (·.2) by rw[aJ];simp);have bn:Q'.length<=i+1:=(by rw[aJ];simp;omega);have b8:=lh (show Q'.map (·.2)++y::(P.drop (i+1)).map (·.2)=eu x (P.map (·.2)) by rw[<-a2.o,<-bd.o];simp);rw[<-aJ]at aT aU;clear aJ;go_wp2_with (at_builtin;refine ae ?_);refine ar ?_;have s:=lh (aT.o.keep (aa.alloc (aa.refl _) (.cells ((h).cells k m).toArray 112)));have J:=lh (oN (r:=h) (x:=y) (λp hp=>(aU.o p hp).keep (aa.alloc (aa.refl _) (.cells ((h).cells k m).toArray 112))) ((H.o.keep (t.v a8)).keep (aa.alloc (aa.refl _) (.cells ((h).cells k m).toArray 112))));have D:=lh (a8.o.trans (aa.alloc (aa.refl _) (.cells ((h).cells k m).toArray 112)));refine aD nO (iM k m) (nD k m) rfl (.tmp 51) (.tmp 56) rfl (ys:=[h]) s.o rfl rfl (ow _ _ sG sG sG sG sG) sO D.o.size ?_;intro a4 a5 M E _
      have ⟨am,_,_⟩:=s.o.after (w:=F) E D.o (lc _);have al:=lh (show ah a5 F.heap.size 112 5 (Rd.cells k m) a4 ((Q'++[(h,y)]).map (·.1)) by rw[lz];exact M);have ao:=lh (show ∀p∈Q'++[(h,y)],cQ a5 base k m p.1 p.2 from λp hp=>(J.o p hp).grown s.o E);have ai:=lh am;clear M E am s J D;go_wp2;go_roundw
      case rel=>exact⟨i+1,_,true,_,oM,by go_num,rfl,rfl,al.o,ao.o,(by show _=_;rw[<-b8.o];simp),sO,ai.o⟩
      case measure=>simp[intOf];omega
   ·rw[if_pos rfl,aI.o]at a2
    replace ax:Q.length<=i+1:=by simpa using ax
    go_upto_region 6 with fail;go_quiet (fail);have o:aa wr (wr.drewN nq):=kP;generalize wr.drewN nq=I at o|-;have a6:=lh (a9.o.keep o);have a7:=lh (λp hp=>(ac.o p hp).keep o:∀p∈Q,cQ I base k m p.1 p.2);have j:=C.u o;clear o a9 ac C;clear V X Y Z a0 a1 N O R S T L;obtain⟨V,X,Y,Z,a0,a1⟩:=ab.o _ j.o;have N:=(f.o.keep j.o).cell 0 _ rfl;have O:=(f.o.keep j.o).cell 1 _ rfl;have R:=(f.o.keep j.o).cell 2 _ rfl;have S:=(f.o.keep j.o).cell 3 _ rfl;have T:=(f.o.keep j.o).cell 4 _ rfl;have L:=(f.o.keep j.o).lt;go_upto_region 9 with fail;go_quiet (fail);have o:aa I (I.drewN nq):=kP;generalize I.drewN nq=ay at o|-;have az:=lh (a6.o.keep o);have aA:=lh (λp hp=>(a7.o p hp).keep o:∀p∈Q,cQ ay base k m p.1 p.2);have q:=j.u o;clear o a6 a7 j;clear V X Y Z a0 a1 N O R S T L;obtain⟨V,X,Y,Z,a0,a1⟩:=ab.o _ q.o;have N:=(f.o.keep q.o).cell 0 _ rfl;have O:=(f.o.keep q.o).cell 1 _ rfl;have R:=(f.o.keep q.o).cell 2 _ rfl;have S:=(f.o.keep q.o).cell 3 _ rfl;have T:=(f.o.keep q.o).cell 4 _ rfl;have L:=(f.o.keep q.o).lt;go_wp2_with (at_builtin;refine ae ?_);refine ar ?_;have s:=lh (az.o.keep (aa.alloc (aa.refl _) (.cells ((h).cells k m).toArray 112)))
    have J:=lh (oN (r:=h) (x:=y) (λp hp=>(aA.o p hp).keep (aa.alloc (aa.refl _) (.cells ((h).cells k m).toArray 112))) ((H.o.keep (t.v q)).keep (aa.alloc (aa.refl _) (.cells ((h).cells k m).toArray 112))));have D:=lh (q.o.trans (aa.alloc (aa.refl _) (.cells ((h).cells k m).toArray 112)));refine aD nO (iM k m) (nD k m) rfl (.tmp 51) (.tmp 56) rfl (ys:=[h]) s.o rfl rfl (ow _ _ sG sG sG sG sG) sO D.o.size ?_;intro a4 a5 M E _;have ⟨am,_,_⟩:=s.o.after (w:=F) E D.o (lc _);have al:=lh (show ah a5 F.heap.size 112 5 (Rd.cells k m) a4 ((Q++[(h,y)]).map (·.1)) by rw[lz];exact M);have ao:=lh (show ∀p∈Q++[(h,y)],cQ a5 base k m p.1 p.2 from λp hp=>(J.o p hp).grown s.o E);have ai:=lh am;clear M E am s J D;go_wp2;go_roundw
    case rel=>exact⟨i+1,_,true,_,oM,by go_num,rfl,rfl,al.o,ao.o,(by show _=_;rw[<-a2.o];simp),sO,ai.o⟩
    case measure=>simp[intOf];omega
  ·have bm:i=n:=oM;have aM:P.drop i=[]:=List.drop_of_length_le (by rw[aL.o];omega);rw[aM]at a2
   cases d
   ·rw[if_neg dC]at a2
    replace ax:Q.length<=i:=by simpa using ax
    have N:=(f.o.keep C.o).cell 0 _ rfl;have O:=(f.o.keep C.o).cell 1 _ rfl;have R:=(f.o.keep C.o).cell 2 _ rfl;have S:=(f.o.keep C.o).cell 3 _ rfl;have T:=(f.o.keep C.o).cell 4 _ rfl;have L:=(f.o.keep C.o).lt;clear aM;go_wp2_with (at_builtin;refine ae ?_);refine ar ?_;have s:=lh (a9.o.keep (aa.alloc (aa.refl _) (.cells ((r).cells k m).toArray 112)));have J:=lh (oN (r:=r) (x:=x) (λp hp=>(ac.o p hp).keep (aa.alloc (aa.refl _) (.cells ((r).cells k m).toArray 112))) ((U.o.keep (t.v C)).keep (aa.alloc (aa.refl _) (.cells ((r).cells k m).toArray 112))));have D:=lh (C.o.trans (aa.alloc (aa.refl _) (.cells ((r).cells k m).toArray 112)));refine aD nO (iM k m) (nD k m) rfl (.tmp 60) (.tmp 62) rfl (ys:=[r]) s.o rfl rfl (ow _ _ sG sG sG sG sG) sO D.o.size ?_;intro a4 a5 M E _;have ⟨am,_,_⟩:=s.o.after (w:=F) E D.o (lc _);have al:=lh (show ah a5 F.heap.size 112 5 (Rd.cells k m) a4 ((Q++[(r,x)]).map (·.1)) by rw[lz];exact M);have ao:=lh (show ∀p∈Q++[(r,x)],cQ a5 base k m p.1 p.2 from λp hp=>(J.o p hp).grown s.o E);have ai:=lh am;clear M E am s J D;clear N O R S T L;go_wp2;go_ret;exact⟨_,Q++[(r,x)],rfl,al.o.base_mono t.o.size,ao.o,by rw[<-a2.o];simp[eu],t.o.trans ai.o⟩
   ·rw[if_pos rfl]at a2;clear aM;go_wp2;go_ret;exact⟨_,rfl,Q,a9.o.base_mono t.o.size,λa b G=>ac.o (a,b) G,by rw[<-a2.o];simp,t.o.trans C.o⟩
end Go.Proofs.YtpkocnpamcchcaaGreatDoor
