/-
  The example of the law of the faces.
-/
import Derived.Test.YtfkgjbdeicggaaaGreatZL
set_option maxHeartbeats 2000000
namespace Go.Proofs.Pf
open Go Go.Proofs.Pg Go.Proofs.Px Go.Proofs.Pn Go.Proofs.Pto
def iN:List BA:=[tx 107,tx 108,tx 109,tx 110]
def aX:List Ob:=[⟨tx 97,3,0,0,iN,[]⟩,⟨tx 107,1,0,0,[],[]⟩,⟨tx 108,1,4,0,[],[]⟩,⟨tx 109,1,4,4,[],[]⟩,⟨tx 110,1,0,4,[],[]⟩,⟨tx 119,2,0,0,[tx 107,tx 109],[]⟩]
theorem nF:aZ aX=true:=by decide+kernel
theorem gn:af aX=[(tx 107,tx 108),(tx 107,tx 109),(tx 107,tx 110),(tx 108,tx 109),(tx 109,tx 110)]:=by decide+kernel
theorem sE{p:Pr}(hp:p∈af aX){s:BA}(h:fj p s):s∈iN:=by
 have key:∀p∈af aX,(∃x∈iN,x=p.1)∧∃x∈iN,x=p.2:=by rw[gn];decide+kernel
 obtain⟨⟨x,hx,a⟩,y,hy,b⟩:=key p hp;rcases h with rfl|rfl
 ·rw[←a];exact hx
 ·rw[←b];exact hy
theorem pW:¬dA aX:=by
 rintro(⟨p,hp,v,d,s,t,j,l,m,f⟩|⟨i,k,a,b,n,ha,c,f,o⟩)
 ·have key:∀s∈iN,∀t∈iN,ar aX s=ar aX t→s=t:=by decide+kernel
  exact m (key s (sE hp j) t (sE d l) f)
 ·have key:∀p∈af aX,∀q∈af aX,p≠q→meets (cF aX p) (cF aX q)=0∨meets (cF aX p) (cF aX q)=1:=by rw[gn];decide+kernel
  have r:=List.mem_of_getElem? ha;have u:=List.mem_of_getElem? c;have h:a≠b:=fun e=>by
   subst e;obtain⟨i1,i2⟩:=List.getElem?_eq_some_iff.1 ha;obtain⟨k1,k2⟩:=List.getElem?_eq_some_iff.1 c;have:=eY (mF aX) (i2.trans k2.symm);omega
  rcases key a r b u h with g|g
  ·exact f g
  ·exact o g
theorem Cc(v a b:Pt)(c:kq v a b)(d:kq v b a):False:=by
 have e:=iC a v b;rcases c with⟨a1,a2⟩|⟨a1,a2⟩<;>rcases d with⟨b1,b2⟩|⟨b1,b2⟩
 ·exact a1 b2
 ·exact a1 (b1.1 a2)
 ·exact b1 (a1.1 b2)
 ·omega
theorem pf{α:Type}{r:α→α→Prop}(c:∀x,¬r x x)(d:∀x y,r x y→r y x→False):∀ {l m:List α},l.Pairwise r→m.Pairwise r→(∀x,x∈l↔x∈m)→l=m
 | [],[],_,_,_=>rfl
 | [],b::m,_,_,h=>by have:=(h b).2 (List.mem_cons_self ..);cases this
 |a::l,[],_,_,h=>by have:=(h a).1 (List.mem_cons_self ..);cases this
 |a::l,b::m,j,k,h=>by
  obtain⟨f,n⟩:=List.pairwise_cons.1 j;obtain⟨i,o⟩:=List.pairwise_cons.1 k;have e:a=b:=by
   rcases List.mem_cons.1 ((h a).1 (List.mem_cons_self ..))with e|e
   ·exact e
   ·rcases List.mem_cons.1 ((h b).2 (List.mem_cons_self ..))with g|g
    ·exact g.symm
    ·exact(d _ _ (f b g) (i a e)).elim
  subst e;rw[pf c d n o fun x=>?_];have hx:=h x;rw[List.mem_cons,List.mem_cons]at hx;constructor
  ·intro g;rcases hx.1 (.inr g)with rfl|g2
   ·exact(c _ (f _ g)).elim
   ·exact g2
  ·intro g;rcases hx.2 (.inr g)with rfl|g2
   ·exact(c _ (i _ g)).elim
   ·exact g2
theorem kD.uniq{l:List Ob}{nb:BA→List BA}(h:kD l nb)(v:BA)(L:List BA)(c:L.Pairwise fun a b=>kq (ar l v) (ar l a) (ar l b))(d:∀w,w∈L↔(v,w)∈an l):nb v=L:=
 pf (r:=fun a b=>kq (ar l v) (ar l a) (ar l b)) (fun _=>mH _ _) (fun _ _=>Cc _ _ _) (h.srt v) c fun w=>(h.mem v w).trans (d w).symm
instance (v a:Pt):Decidable (low v a):=by unfold low;exact inferInstance
instance (v a b:Pt):Decidable (kq v a b):=by unfold kq;exact inferInstance
def DL(v:BA):List BA:=if v=tx 107 then [tx 108,tx 109,tx 110]else if v=tx 108 then [tx 109,tx 107]else if v=tx 109 then [tx 110,tx 107,tx 108]else if v=tx 110 then [tx 109,tx 107]else []
theorem fC:an aX=[(tx 107,tx 108),(tx 107,tx 109),(tx 107,tx 110),(tx 108,tx 109),(tx 109,tx 110),(tx 108,tx 107),(tx 109,tx 107),(tx 110,tx 107),(tx 109,tx 108),(tx 110,tx 109)]:=by
 unfold an;rw[gn];rfl
theorem GP{nb:BA→List BA}(h:kD aX nb){v:BA}(hv:v∈iN):nb v=DL v:=by
 have key:∀v∈iN,(DL v).Pairwise (fun a b=>kq (ar aX v) (ar aX a) (ar aX b)):=by decide+kernel
 have c:∀v∈iN,∀w∈DL v,(v,w)∈an aX:=by rw[fC];decide+kernel
 have d:∀s∈an aX,∃x∈DL s.1,x=s.2:=by rw[fC];decide+kernel
 exact h.uniq v _ (key v hv) fun w=>⟨fun hw=>c v hv w hw,fun hw=>by obtain⟨x,hx,e⟩:=d _ hw;rw[show w=x from e.symm];exact hx⟩
theorem EY{nb:BA→List BA}(h:kD aX nb){s:eM}(hs:s∈an aX):gw nb s=gw DL s:=by
 have key:∀s∈an aX,∃x∈iN,x=s.2:=by rw[fC];decide+kernel
 obtain⟨x,hx,e⟩:=key s hs;unfold gw;rw[GP h (by rw[←e];exact hx)]
theorem pX{nb:BA→List BA}(h:kD aX nb){s:eM}(hs:s∈an aX):∀i,ib nb s i=ib DL s i
 |0=>rfl
 |i+1=>by
  have:=pX h hs i;show gw nb _=gw DL _;rw[EY h (ic h hs i),this]
theorem yE.froms{l:List Ob}{nb:BA→List BA}{c:List BA}(h:yE l nb c){n:Nat}(q:0<n)(f:ib nb (aS c 0,aS c 1) n=(aS c 0,aS c 1))(k:∀j,j<n→0<j→ib nb (aS c 0,aS c 1) j≠(aS c 0,aS c 1)):c=bA nb (aS c 0,aS c 1) n:=by
 have d:∀i,ib nb (aS c 0,aS c 1) i=(aS c i,aS c (i+1)):=by
  intro i;induction i with
  |zero=>rfl
  |succ i m=>
   show gw nb _=_;rw[m,h.nxt i]
 have e:0<c.length:=List.length_pos_iff.2 h.ne;have o:ib nb (aS c 0,aS c 1) c.length=(aS c 0,aS c 1):=by
  have a:=jZ c 0;have b:=jZ c 1;rw[Nat.zero_add]at a;rw[d,a,Nat.add_comm c.length 1,b]
 have p:c.length=n:=by
  rcases Nat.lt_trichotomy c.length n with g|g|g
  ·exact absurd o (k _ g e)
  ·exact g
  ·exfalso;have a:=h.nd;unfold bE at a;have:(0:Nat)=n:=eY a (i:=0) (j:=n) (hi:=by simpa using e) (hj:=by simpa using g) (by
    simp only[List.getElem_map,List.getElem_range];rw[←d n,f])
   omega
 refine List.ext_getElem (by rw[iL,p]) fun i hi hj=>?_;simp only[bA,List.getElem_map,List.getElem_range,d,iK hi]
theorem EZ:∀s∈an aX,∃n∈[3,4],ib DL s n=s∧(∀j∈List.range n,0<j→ib DL s j≠s)∧(0<tw (aw aX (bA DL s n))→tw (aw aX (bA DL s n))=16∧fk aX iN s=true):=by
 rw[fC];decide+kernel
theorem yI{κ:Type}{nb:BA→List BA}{P:BA→κ}{outs rims:List (List BA)}(h:gV aX nb P outs rims):outs.length=2∧(∀c∈outs,fk aX iN (aS c 0,aS c 1)=true)∧∀at':List BA→Nat,(∀R∈rims,pV aX P outs (aS R 0) (at' R))→∀i,i<2→yG aX outs rims at' i=16:=by
 have o:∀s∈an aX,P s.1=P (tx 107):=by
  have b:=h.lab.bor;rw[gn]at b;have b1:=b _ (List.mem_cons_self ..);have b2:=b (tx 107,tx 109) (by decide+kernel);have w:=b (tx 107,tx 110) (by decide+kernel);simp only at b1 b2 w;have key:∀s∈an aX,s.1=tx 107∨s.1=tx 108∨s.1=tx 109∨s.1=tx 110:=by rw[fC];decide+kernel
  intro s hs;rcases key s hs with e|e|e|e<;>rw[e]
  ·exact b1.symm
  ·exact b2.symm
  ·exact w.symm
 have d:∀c∈outs,tw (aw aX c)=16∧fk aX iN (aS c 0,aS c 1)=true:=fun c l=>by
  have f:=h.cyc.cyc c (List.mem_append_left _ l);obtain⟨_,m⟩:=du f;obtain⟨n,B,C,D,E⟩:=EZ _ m;have p:0<n:=by
   simp only[List.mem_cons,List.not_mem_nil,or_false]at B;omega
  have e:=f.froms p (by rw[pX h.nbi m];exact C) fun j hj q=>by rw[pX h.nbi m];exact D j (List.mem_range.2 hj) q
  have r:bA nb (aS c 0,aS c 1) n=bA DL (aS c 0,aS c 1) n:=by
   unfold bA;exact List.map_congr_left fun i _=>by rw[pX h.nbi m]
  have y:=e.trans r;have F:=h.out c l;have z:=E (by rw[←y];exact F);rw[←y]at z;exact z
 have hlen:outs.length=2:=by
  have:=h.euler nF pW (V:=iN) (by decide+kernel) (fun v=>by
   rw[fC];constructor
   ·(have key:∀v∈iN,∃s∈[(tx 107,tx 108),(tx 107,tx 109),(tx 107,tx 110),(tx 108,tx 109),(tx 109,tx 110),(tx 108,tx 107),(tx 109,tx 107),(tx 110,tx 107),(tx 109,tx 108),(tx 110,tx 109)],s.1=v:=by decide+kernel);exact key v
   ·(have key:∀s∈[(tx 107,tx 108),(tx 107,tx 109),(tx 107,tx 110),(tx 108,tx 109),(tx 109,tx 110),(tx 108,tx 107),(tx 109,tx 107),(tx 110,tx 107),(tx 109,tx 108),(tx 110,tx 109)],∃x∈iN,x=s.1:=by decide+kernel);rintro⟨s,hs,rfl⟩;obtain⟨x,hx,e⟩:=key s hs;rw[←e];exact hx) (K:=[P (tx 107)]) (by simp) (fun k=>by
   rw[List.mem_singleton];constructor
   ·rintro rfl;exact⟨(tx 107,tx 108),by rw[fC];exact List.mem_cons_self ..,rfl⟩
   ·rintro⟨s,hs,rfl⟩;exact o s hs)
  rw[gn]at this;simp only[List.length_cons,List.length_nil,iN]at this;omega
 refine⟨hlen,fun c l=>(d c l).2,fun at' t i hi=>?_⟩;have g:i<outs.length:=O9;unfold yG;have G:(rims.filter fun R=>decide (at' R=i+1))=[]:=by
  rw[List.filter_eq_nil_iff];intro R A;simp only[decide_eq_true_eq];intro e;obtain⟨c,H,r,_⟩:=(t R A).some i e;have u:=List.mem_of_getElem? H;have a:=o _ (du (h.cyc.cyc c (List.mem_append_left _ u))).2;have b:=o _ (du (h.cyc.cyc R (List.mem_append_right _ A))).2;exact r (a.trans b.symm)
 rw[G,List.getD_eq_getElem?_getD,List.getElem?_eq_getElem g];have:=(d _ (List.getElem_mem g)).1;show tw (aw aX outs[i])+0=16;omega
end Go.Proofs.Pf
namespace Go.Proofs.YtfkgjbdeicggaaaGreat
open Go.RowKit Go.Proofs.Pg Go.Proofs.Pf
def E2(r:List Pt)(k:Nat):Int:=sl (fun i=>(Pri.cor r i).x*(Pri.cor r (i+1)).y-(Pri.cor r (i+1)).x*(Pri.cor r i).y) (List.range k)
theorem vV(r:List Pt)(k:Nat):E2 r (k+1)=E2 r k+((Pri.cor r k).x*(Pri.cor r (k+1)).y-(Pri.cor r (k+1)).x*(Pri.cor r k).y):=by
 unfold E2;rw[List.range_succ,fi];simp only[sl,Int.add_zero]
theorem AX(r:List Pt):E2 r r.length=tw (bh r):=by
 unfold E2 tw bh;rw[dq]
def gW(p:Pt):Prop:= -2097152≤p.x∧p.x≤2097152∧ -2097152≤p.y∧p.y≤2097152
theorem lS{r:List Pt}(h:0<r.length)(i:Nat):Pri.cor r i∈r:=by
 unfold Pri.cor Pri.at0;rw[List.getElem?_eq_getElem (Nat.mod_lt i h)];exact List.getElem_mem _
theorem sF{a b:Int}(h1: -2097152≤a)(h2:a≤2097152)(h3: -2097152≤b)(h4:b≤2097152): -4398046511104≤a*b∧a*b≤4398046511104:=by
 have:=pO 2097152 a b h1 h2 h3 h4;omega
theorem E3{r:List Pt}(h:∀p∈r,gW p)(h0:0<r.length)(k:Nat): -((k:Int)*8796093022208)≤E2 r k∧E2 r k≤(k:Int)*8796093022208:=by
 induction k with
 |zero=>exact⟨by simp[E2,sl],by simp[E2,sl]⟩
 |succ k ih=>
  rw[vV];obtain⟨a1,a2,a3,a4⟩:=h _ (lS h0 k);obtain⟨b1,b2,b3,b4⟩:=h _ (lS h0 (k+1));have p1:=sF a1 a2 b3 b4;have p2:=sF b1 b2 a3 a4;constructor<;>(push_cast;omega)
theorem tY{w:World}{g:Nat}{r:List Pt}(h:eI w g r){k:Nat}(hk:k<r.length):w.cell? ⟨g,k*2,none⟩=some (.int .i64 (Pri.cor r k).x)∧w.cell? ⟨g,k*2+1,none⟩=some (.int .i64 (Pri.cor r k).y):=by
 have:=h k (Pri.cor r k) (by rw[Pri.cor_lt r k hk];exact Pri.at0_some r k hk);exact this
theorem lT(g c:Nat)(r:List Pt)(w:World)(h0:0<r.length)(hn:r.length≤1000)(hp:∀p∈r,gW p)(hg:g<w.heap.size)(h:eI w g r):Calls Tryz.prog 50 #[.slice (some ⟨g,0,none⟩) r.length c] w fun e w'=>e= .returned (.int .i64 (tw (bh r)))∧Below w.heap.size w w':=by
 obtain⟨R,hR⟩:∃R,R=tw (bh r):=⟨_,rfl⟩;rw[←hR];have HR:=aa (hR.trans (AX r).symm);have H1:=aa h;have HP:=aa hp;have HU:=aa (fun k=>E3 hp h0 k);clear h hR hp;obtain⟨n,hnn⟩:∃n,n=r.length:=⟨_,rfl⟩;have HN:=aa hnn;rw[←hnn]at h0 hn ⊢;clear hnn;go_enter Tryz.func50,Tryz.ntmps50;go_wp2;go_loopw [3,9] (fun s i wr=>∃k:Nat,k≤n∧i= .int .i64 k∧s= .int .i64 (E2 r k)∧Below w.heap.size w wr) (fun _ i _=>n-(intOf i).toNat)
 case atStart=>exact⟨0,Nat.zero_le _,rfl,rfl,Below.refl _ _⟩
 case round=>
  obtain⟨k,hk,rfl,rfl,hb⟩:=hrel;by_cases hlt:k<n
  ·(have hlt':k<r.length:=by have:=HN.out;omega);have hm:=Nat.mod_lt (k+1) h0;(have hm':(k+1)%n<r.length:=by have:=HN.out;omega);obtain⟨k1,k2⟩:=tY (eI.below H1.out hg hb) hlt';obtain⟨j1,j2⟩:=tY (eI.below H1.out hg (hb.alloc hb.size (.cells #[.int .i64 (Pri.cor r k).x,.int .i64 (Pri.cor r k).y] 44))) hm';(have ec:Pri.cor r ((k+1)%n)=Pri.cor r (k+1):=by rw[HN.out];unfold Pri.cor;rw[Nat.mod_mod]);rw[ec]at j1 j2;have m1:=HP.out _ (lS (by have:=HN.out;omega) k)
   have m2:=HP.out _ (lS (by have:=HN.out;omega) (k+1));have u1:=HU.out k;have u2:=HU.out (k+1);have us:=vV r k;have HS:=aa us;rw[us]at u2;clear us;generalize E2 r k=s at*;generalize Pri.cor r k=p at*;generalize Pri.cor r (k+1)=q at*;obtain⟨px,py⟩:=p;obtain⟨qx,qy⟩:=q;unfold gW at m1 m2;simp only at k1 k2 j1 j2 m1 m2 u2;have pr1:=sF m1.1 m1.2.1 m2.2.2.1 m2.2.2.2;have pr2:=sF m2.1 m2.2.1 m1.2.2.1 m1.2.2.2;have hrem:((k:Int)+1).tmod n=(((k+1)%n:Nat):Int):=by
    rw[Int.tmod_eq_emod_of_nonneg O9];push_cast;rfl
   clear ec;generalize (k+1)%n=m at*;have b1:(0:Int)≤k:=O9;have b2:(k:Int)<n:=O9;go_wp2_with fail;refine⟨⟨k+1,O9,by go_num,HS.out.symm▸rfl,(hb.alloc hb.size _).alloc (hb.alloc hb.size _).size _⟩,?_⟩;simp[intOf];omega
  ·(have hkn:k=n:=by omega);go_wp2_with fail;go_ret;refine⟨?_,hb⟩;rw[HR.out,←HN.out,hkn];rfl
def kX(a b p:Pt):Bool:=decide (Pri.chi a b p≠0)
def vW(r:List Pt)(p:Pt):Nat→Bool
 |0=>false
 |k+1=>vW r p k != kX (Pri.cor r k) (Pri.cor r (k+1)) p
theorem E4(r:List Pt)(p:Pt):vW r p r.length=nC r p:=by
 have key:∀k,vW r p k=decide ((((List.range k).map fun i=>(Pri.cor r i,Pri.cor r (i+1))).filter fun s=>decide (Pri.chi s.1 s.2 p≠0)).length%2=1):=by
  intro k;induction k with
  |zero=>rfl
  |succ k ih=>
   rw[vW,ih,List.range_succ,List.map_append,List.filter_append,List.length_append,List.map_singleton];unfold kX;by_cases e:Pri.chi (Pri.cor r k) (Pri.cor r (k+1)) p=0
   ·rw[List.filter_cons_of_neg (by simp[e])];simp[e]
   ·rw[List.filter_cons_of_pos (by simpa using e)];simp only[e,ne_eq,not_false_eq_true,decide_true,List.filter_nil,List.length_singleton];generalize (List.filter _ _).length=m;show(decide (m%2=1) != true)=decide ((m+1)%2=1);rw[Bool.eq_iff_iff];simp only[bne_iff_ne,ne_eq,decide_eq_true_eq];omega
 rw[key];rfl
theorem yJ{a b p:Pt}(h:a.y≤p.y↔b.y≤p.y):kX a b p=false:=by
 unfold kX Pri.chi;simp only[decide_eq_false_iff_not,Decidable.not_not,ne_eq]
 (repeat' split)<;>omega
theorem yK{a b p:Pt}(ha:gW a)(hb:gW b)(hp:gW p)(h:¬(a.y≤p.y↔b.y≤p.y)):kX a b p=(decide (decide (0<ah a b p)=decide (a.y<b.y))&&decide (ah a b p≠0)):=by
 have hn:aD [a,b,p]=true:=by
  unfold aD aD aD aD;rw[(fF a).2 ha,(fF b).2 hb,(fF p).2 hp];rfl
 unfold ah;rw[if_pos hn];unfold kX Pri.chi;rw[Bool.eq_iff_iff];simp only[Bool.and_eq_true,decide_eq_true_eq,decide_eq_decide];rcases bN (ae a b p) 0 with⟨g,e⟩|⟨g,e⟩|⟨g,e⟩<;>rw[e]<;>(repeat' split)<;>omega
theorem qK(g c:Nat)(r:List Pt)(px py:Int)(w:World)(h0:0<r.length)(hn:r.length≤1000)(hp:∀p∈r,gW p)(hpp:gW ⟨px,py⟩)(hg:g<w.heap.size)(h:eI w g r):Calls Tryz.prog 104 #[.slice (some ⟨g,0,none⟩) r.length c,.agg #[.int .i64 px,.int .i64 py]] w fun e w'=>e= .returned (.bool (nC r ⟨px,py⟩))∧Below w.heap.size w w':=by
 obtain⟨R,hR⟩:∃R,R=nC r ⟨px,py⟩:=⟨_,rfl⟩;rw[←hR];have HR:=aa (hR.trans (E4 r ⟨px,py⟩).symm);have H1:=aa h;have HP:=aa hp;have HQ:=aa hpp;clear h hR hp hpp;obtain⟨n,hnn⟩:∃n,n=r.length:=⟨_,rfl⟩;have HN:=aa hnn;rw[←hnn]at h0 hn ⊢;clear hnn;go_enter Tryz.func104,Tryz.ntmps104;go_wp2;go_loopw [5,12] (fun s i wr=>∃k:Nat,k≤n∧i= .int .i64 k∧s= .bool (vW r ⟨px,py⟩ k)∧Below w.heap.size w wr∧wr.heap[w.heap.size]? =some (.cells #[.int .i64 px,.int .i64 py] 44 (0,0))) (fun _ i _=>n-(intOf i).toNat)
 case atStart=>exact⟨0,Nat.zero_le _,rfl,rfl,(Below.refl _ _).alloc (Nat.le_refl _) _,cj _ _ _ rfl⟩
 case round=>
  obtain⟨k,hk,rfl,rfl,hb,hbx⟩:=hrel;by_cases hlt:k<n
  ·(have hlt':k<r.length:=by have:=HN.out;omega);have hm:=Nat.mod_lt (k+1) h0;(have hm':(k+1)%n<r.length:=by have:=HN.out;omega);have hb2:=hb.alloc hb.size (.cells #[.int .i64 (Pri.cor r k).x,.int .i64 (Pri.cor r k).y] 44);obtain⟨k1,k2⟩:=tY (eI.below H1.out hg hb) hlt';obtain⟨j1,j2⟩:=tY (eI.below H1.out hg hb2) hm';(have ec:Pri.cor r ((k+1)%n)=Pri.cor r (k+1):=by rw[HN.out];unfold Pri.cor;rw[Nat.mod_mod]);rw[ec]at j1 j2
   have hb3:=hb2.alloc hb2.size (.cells #[.int .i64 (Pri.cor r (k+1)).x,.int .i64 (Pri.cor r (k+1)).y] 44);obtain⟨⟨x1,x2⟩,_⟩:=aW (dU (.cells #[.int .i64 (Pri.cor r (k+1)).x,.int .i64 (Pri.cor r (k+1)).y] 44) (dU (.cells #[.int .i64 (Pri.cor r k).x,.int .i64 (Pri.cor r k).y] 44) hbx));have hbx3:=aa (dU (.cells #[.int .i64 (Pri.cor r (k+1)).x,.int .i64 (Pri.cor r (k+1)).y] 44) (dU (.cells #[.int .i64 (Pri.cor r k).x,.int .i64 (Pri.cor r k).y] 44) hbx));have m1:=HP.out _ (lS (by have:=HN.out;omega) k)
   have m2:=HP.out _ (lS (by have:=HN.out;omega) (k+1));have CS:=aa (yJ (a:=Pri.cor r k) (b:=Pri.cor r (k+1)) (p:=⟨px,py⟩));have CT:=aa (yK (a:=Pri.cor r k) (b:=Pri.cor r (k+1)) (p:=⟨px,py⟩) m1 m2 HQ.out);have US:=aa (show vW r ⟨px,py⟩ (k+1)=(vW r ⟨px,py⟩ k != kX (Pri.cor r k) (Pri.cor r (k+1)) ⟨px,py⟩)from rfl);have HB3:=aa hb3;clear ec hb3;generalize vW r ⟨px,py⟩ k=s at*;generalize kX (Pri.cor r k) (Pri.cor r (k+1)) ⟨px,py⟩=t at*;generalize Pri.cor r k=p at*;generalize Pri.cor r (k+1)=q at*
   obtain⟨ax,ay⟩:=p;obtain⟨bx,by'⟩:=q;have HO:=aa (cX ax ay bx by' px py);generalize ah ⟨ax,ay⟩ ⟨bx,by'⟩ ⟨px,py⟩=o at*;simp only at k1 k2 j1 j2;have hrem:((k:Int)+1).tmod n=(((k+1)%n:Nat):Int):=by
    rw[Int.tmod_eq_emod_of_nonneg O9];push_cast;rfl
   generalize (k+1)%n=m at*;have b1:(0:Int)≤k:=O9;have b2:(k:Int)<n:=O9;clear m1 m2;by_cases e1:ay≤py<;>by_cases e2:by'≤py
   ·have ht:t=false:=CS.out ⟨fun _=>e2,fun _=>e1⟩;go_wp2_with fail;refine⟨⟨k+1,O9,by go_num,by rw[US.out,ht];simp,HB3.out,hbx3.out⟩,?_⟩;simp[intOf];omega
   ·have ht:=CT.out (fun h=>e2 (h.1 e1));have hay:ay<by':=O9;rcases Int.lt_trichotomy o 0 with g|g|g
    ·(have htt:t=false:=by rw[ht];simp[show(0<o)=False from eq_false O9,show(ay<by')=True from eq_true O9,show o≠0 from by omega]);clear ht CT CS;go_wp2_with fail;refine(HO.out _).mono ?_;rintro _ w7 ⟨rfl,b7⟩;obtain⟨⟨y1,y2⟩,_⟩:=aW (ai b7 (dU (.cells #[.int .i64 bx,.int .i64 by'] 44) (cj wr (.cells #[.int .i64 ax,.int .i64 ay] 44) _ rfl)));obtain⟨⟨z1,z2⟩,_⟩:=aW (ai b7 (cj (wr.alloc (.cells #[.int .i64 ax,.int .i64 ay] 44)) (.cells #[.int .i64 bx,.int .i64 by'] 44) (wr.heap.size+1) (by simp)))
     go_wp2_with fail;refine⟨⟨k+1,O9,by go_num,by rw[US.out,htt];cases s<;>rfl,aq HB3.out b7,ai b7 hbx3.out⟩,?_⟩;simp[intOf];omega
    ·(have htt:t=false:=by rw[ht];simp[g]);clear ht CT CS;go_wp2_with fail;refine(HO.out _).mono ?_;rintro _ w7 ⟨rfl,b7⟩;obtain⟨⟨y1,y2⟩,_⟩:=aW (ai b7 (dU (.cells #[.int .i64 bx,.int .i64 by'] 44) (cj wr (.cells #[.int .i64 ax,.int .i64 ay] 44) _ rfl)));obtain⟨⟨z1,z2⟩,_⟩:=aW (ai b7 (cj (wr.alloc (.cells #[.int .i64 ax,.int .i64 ay] 44)) (.cells #[.int .i64 bx,.int .i64 by'] 44) (wr.heap.size+1) (by simp)));go_wp2_with fail
     refine⟨⟨k+1,O9,by go_num,by rw[US.out,htt];cases s<;>rfl,aq HB3.out b7,ai b7 hbx3.out⟩,?_⟩;simp[intOf];omega
    ·(have htt:t=true:=by rw[ht];simp[show(0<o)=True from eq_true O9,show(ay<by')=True from eq_true O9,show o≠0 from by omega]);clear ht CT CS;go_wp2_with fail;refine(HO.out _).mono ?_;rintro _ w7 ⟨rfl,b7⟩;obtain⟨⟨y1,y2⟩,_⟩:=aW (ai b7 (dU (.cells #[.int .i64 bx,.int .i64 by'] 44) (cj wr (.cells #[.int .i64 ax,.int .i64 ay] 44) _ rfl)));obtain⟨⟨z1,z2⟩,_⟩:=aW (ai b7 (cj (wr.alloc (.cells #[.int .i64 ax,.int .i64 ay] 44)) (.cells #[.int .i64 bx,.int .i64 by'] 44) (wr.heap.size+1) (by simp)))
     go_wp2_with fail;refine⟨⟨k+1,O9,by go_num,by rw[US.out,htt];cases s<;>rfl,aq HB3.out b7,ai b7 hbx3.out⟩,?_⟩;simp[intOf];omega
   ·have ht:=CT.out (fun h=>e1 (h.2 e2));have hay:by'<ay:=O9;rcases Int.lt_trichotomy o 0 with g|g|g
    ·(have htt:t=true:=by rw[ht];simp[show(0<o)=False from eq_false O9,show(ay<by')=False from eq_false O9,show o≠0 from by omega]);clear ht CT CS;go_wp2_with fail;refine(HO.out _).mono ?_;rintro _ w7 ⟨rfl,b7⟩;obtain⟨⟨y1,y2⟩,_⟩:=aW (ai b7 (dU (.cells #[.int .i64 bx,.int .i64 by'] 44) (cj wr (.cells #[.int .i64 ax,.int .i64 ay] 44) _ rfl)));obtain⟨⟨z1,z2⟩,_⟩:=aW (ai b7 (cj (wr.alloc (.cells #[.int .i64 ax,.int .i64 ay] 44)) (.cells #[.int .i64 bx,.int .i64 by'] 44) (wr.heap.size+1) (by simp)))
     go_wp2_with fail;refine⟨⟨k+1,O9,by go_num,by rw[US.out,htt];cases s<;>rfl,aq HB3.out b7,ai b7 hbx3.out⟩,?_⟩;simp[intOf];omega
    ·(have htt:t=false:=by rw[ht];simp[g]);clear ht CT CS;go_wp2_with fail;refine(HO.out _).mono ?_;rintro _ w7 ⟨rfl,b7⟩;obtain⟨⟨y1,y2⟩,_⟩:=aW (ai b7 (dU (.cells #[.int .i64 bx,.int .i64 by'] 44) (cj wr (.cells #[.int .i64 ax,.int .i64 ay] 44) _ rfl)));obtain⟨⟨z1,z2⟩,_⟩:=aW (ai b7 (cj (wr.alloc (.cells #[.int .i64 ax,.int .i64 ay] 44)) (.cells #[.int .i64 bx,.int .i64 by'] 44) (wr.heap.size+1) (by simp)));go_wp2_with fail
     refine⟨⟨k+1,O9,by go_num,by rw[US.out,htt];cases s<;>rfl,aq HB3.out b7,ai b7 hbx3.out⟩,?_⟩;simp[intOf];omega
    ·(have htt:t=false:=by rw[ht];simp[show(0<o)=True from eq_true O9,show(ay<by')=False from eq_false O9,show o≠0 from by omega]);clear ht CT CS;go_wp2_with fail;refine(HO.out _).mono ?_;rintro _ w7 ⟨rfl,b7⟩;obtain⟨⟨y1,y2⟩,_⟩:=aW (ai b7 (dU (.cells #[.int .i64 bx,.int .i64 by'] 44) (cj wr (.cells #[.int .i64 ax,.int .i64 ay] 44) _ rfl)));obtain⟨⟨z1,z2⟩,_⟩:=aW (ai b7 (cj (wr.alloc (.cells #[.int .i64 ax,.int .i64 ay] 44)) (.cells #[.int .i64 bx,.int .i64 by'] 44) (wr.heap.size+1) (by simp)))
     go_wp2_with fail;refine⟨⟨k+1,O9,by go_num,by rw[US.out,htt];cases s<;>rfl,aq HB3.out b7,ai b7 hbx3.out⟩,?_⟩;simp[intOf];omega
   ·have ht:t=false:=CS.out ⟨fun h=>absurd h e1,fun h=>absurd h e2⟩;go_wp2_with fail;refine⟨⟨k+1,O9,by go_num,by rw[US.out,ht];simp,HB3.out,hbx3.out⟩,?_⟩;simp[intOf];omega
  ·(have hkn:k=n:=by omega);go_wp2_with fail;go_ret;refine⟨?_,hb⟩;rw[HR.out,←HN.out,hkn];rfl
