/-
  Two segments that meet have boxes that meet; two that meet in an end have an end in common. No program in sight.
-/
import Derived.Test.YtfkgjbdeicggaaaGreatZB
namespace Go.Proofs.Pto
open Go.Proofs.Pg
theorem je{a b c:Int}(h:a≤b)(d:0≤c):c*a≤c*b:=Int.mul_le_mul_of_nonneg_left h d
theorem AL{a p:Pt}(h:aN a p≤0):a.x≤p.x:=by
 unfold aN at h;rcases bN a.x p.x with⟨b,_⟩|⟨b,c⟩|⟨b,_⟩
 ·omega
 ·rw[c]at h;simp at h
 ·omega
theorem AM{a p:Pt}(h:aN a p≤0)(hx:a.x=p.x):a.y≤p.y:=by
 unfold aN at h;rcases bN a.x p.x with⟨b,_⟩|⟨b,c⟩|⟨_,c⟩
 ·omega
 ·omega
 ·rw[c]at h;simp at h;rcases bN a.y p.y with⟨b,_⟩|⟨b,c⟩|⟨b,_⟩
  ·omega
  ·rw[c]at h;omega
  ·omega
theorem I7{ax bx px ay bY py:Int}(d:(bx-ax)*(py-ay)-(bY-ay)*(px-ax)=0)(e:ax≤px)(f:px≤bx)(c:ax<bx):min ay bY≤py∧py≤max ay bY:=by
 have a:(bx-ax)*(py-ay)=(px-ax)*(bY-ay):=by grind
 have b:(bx-ax)*(bY-py)=(bx-px)*(bY-ay):=by grind
 rcases Int.lt_or_le (bY-ay) 0 with h|h
 ·have s1:(bx-ax)*(py-ay)≤0:=by rw[a];exact Int.mul_nonpos_of_nonneg_of_nonpos O9 O9
  have s2:(bx-ax)*(bY-py)≤0:=by rw[b];exact Int.mul_nonpos_of_nonneg_of_nonpos O9 O9
  have t1:py-ay≤0:=by
   rcases Int.lt_or_le 0 (py-ay)with k|k
   ·have:=Int.mul_pos (show 0<bx-ax by omega) k;omega
   ·exact k
  have t2:bY-py≤0:=by
   rcases Int.lt_or_le 0 (bY-py)with k|k
   ·have:=Int.mul_pos (show 0<bx-ax by omega) k;omega
   ·exact k
  omega
 ·have s1:0≤(bx-ax)*(py-ay):=by rw[a];exact Int.mul_nonneg O9 O9
  have s2:0≤(bx-ax)*(bY-py):=by rw[b];exact Int.mul_nonneg O9 O9
  have t1:0≤py-ay:=by
   rcases Int.lt_or_le (py-ay) 0 with k|k
   ·have:=Int.mul_neg_of_pos_of_neg (show 0<bx-ax by omega) k;omega
   ·exact k
  have t2:0≤bY-py:=by
   rcases Int.lt_or_le (bY-py) 0 with k|k
   ·have:=Int.mul_neg_of_pos_of_neg (show 0<bx-ax by omega) k;omega
   ·exact k
  omega
theorem tP{a b p:Pt}(e:ae a b p=0)(c:aN a p≤0)(d:aN p b≤0):min a.x b.x≤p.x∧p.x≤max a.x b.x∧min a.y b.y≤p.y∧p.y≤max a.y b.y:=by
 have x1:=AL c;have f:=AL d;refine⟨O9,O9,?_⟩;rcases Int.lt_or_le a.x b.x with h|h
 ·exact I7 (ax:=a.x) (bx:=b.x) (px:=p.x) (ay:=a.y) (bY:=b.y) (py:=p.y) e x1 f h
 ·have y1:=AM c O9;have g:=AM d O9;omega
def rZ(f:Pt→Int)(s t:Sg):Prop:=max (f s.a) (f s.b)<min (f t.a) (f t.b)
theorem ym{f:Pt→Int}{s t:Sg}(h:rZ f s t):rZ f (aO s) (aO t):=by
 unfold rZ at*;unfold aO;split<;>split<;>(try dsimp only)<;>omega
theorem Ey{s:Sg}{p:Pt}(hs:aN s.a s.b≤0)(h:eD s p=true):min s.a.x s.b.x≤p.x∧p.x≤max s.a.x s.b.x∧min s.a.y s.b.y≤p.y∧p.y≤max s.a.y s.b.y:=by
 unfold eD at h;rw[jb s hs]at h;simp only[Bool.and_eq_true,decide_eq_true_eq,beq_iff_eq]at h;obtain⟨c,⟨⟨d,e⟩,f⟩,_⟩:=h;exact tP ((aP _ _ _ c).1 d) e f
theorem low_cases(s t:Sg):(fB s t=t.a∧aN s.a t.a≤0)∨(fB s t=s.a∧aN t.a s.a≤0):=by
 unfold fB;split
 ·rename_i h;left;have:=fU t.a s.a;exact⟨rfl,O9⟩
 ·right;exact⟨rfl,O9⟩
theorem GI(s t:Sg):aN (di s t) s.b≤0∧aN (di s t) t.b≤0:=by
 unfold di;split
 ·rename_i h;exact⟨O9,by rw[(bH _ _).2 rfl];omega⟩
 ·have:=fU t.b s.b;exact⟨by rw[(bH _ _).2 rfl];omega,O9⟩
theorem qn{a b c:Pt}(d:aN a b≤0)(f:aN b c≤0):aN a c≤0:=by
 have x1:=AL d;have g:=AL f;unfold aN;rcases bN a.x c.x with⟨h,e⟩|⟨h,e⟩|⟨h,e⟩
 ·rw[e];simp
 ·omega
 ·have y1:=AM d O9;have i:=AM f O9;rw[e];simp;rcases bN a.y c.y with⟨h,e⟩|⟨h,e⟩|⟨h,e⟩<;>omega
theorem yn(f:Pt→Int)(o:f=Pt.x∨f=Pt.y){s t:Sg}(hs:aN s.a s.b≤0)(I:aN t.a t.b≤0)(c:aD [s.a,s.b,t.a,t.b]=true)(h:rZ f s t):bz s t=0:=by
 unfold rZ at h;have q:aD [s.a,s.b,t.a]=true:=by simp only[aD,Bool.and_eq_true]at c ⊢;exact⟨c.1,c.2.1,c.2.2.1,trivial⟩
 have u:aD [s.a,s.b,t.b]=true:=by simp only[aD,Bool.and_eq_true]at c ⊢;exact⟨c.1,c.2.1,c.2.2.2.1,trivial⟩
 have J:aD [t.a,t.b,s.a]=true:=by simp only[aD,Bool.and_eq_true]at c ⊢;exact⟨c.2.2.1,c.2.2.2.1,c.1,trivial⟩
 have K:aD [t.a,t.b,s.b]=true:=by simp only[aD,Bool.and_eq_true]at c ⊢;exact⟨c.2.2.1,c.2.2.2.1,c.2.1,trivial⟩
 have box:∀ {r:Sg}{p:Pt},(min r.a.x r.b.x≤p.x∧p.x≤max r.a.x r.b.x∧min r.a.y r.b.y≤p.y∧p.y≤max r.a.y r.b.y)→min (f r.a) (f r.b)≤f p∧f p≤max (f r.a) (f r.b):=by
  intro r p hb;rcases o with rfl|rfl
  ·exact⟨hb.1,hb.2.1⟩
  ·exact⟨hb.2.2.1,hb.2.2.2⟩
 unfold bz;rw[if_neg (fun e=>by rw[e]at h;omega)];split
 ·rename_i d;unfold dc;split
  ·rename_i he;unfold mW;split
   ·rename_i j;have:=box (Ey hs j);omega
   ·rfl
  ·rename_i k;split
   ·rename_i he;unfold mW;split
    ·rename_i j;have:=box (Ey I j);omega
    ·rfl
   ·rename_i i;have v:ah s.a s.b t.a=0∧ah s.a s.b t.b=0:=by
     rcases d with g|g|g
     ·exact absurd g i
     ·exact absurd g k
     ·exact g
    have c1:=(aP _ _ _ q).1 v.1;have c2:=(aP _ _ _ u).1 v.2;obtain⟨c3,c4⟩:=eF _ _ _ _ i c1 c2;have key:¬aN (fB s t) (di s t)≤0:=by
     intro hle;obtain⟨L,N⟩:=GI s t;rcases low_cases s t with⟨e,l⟩|⟨e,l⟩
     ·rw[e]at hle;have:=box (tP c1 l (qn hle L));omega
     ·rw[e]at hle;have:=box (tP c3 l (qn hle N));omega
    have:aN (fB s t) (di s t)=1:=by
     rcases eP (fB s t) (di s t)with e|e|e<;>omega
    rw[this];rfl
 ·rename_i d;obtain⟨A,hA⟩:∃A,ae s.a s.b t.a=A:=⟨_,rfl⟩;obtain⟨B,m⟩:∃B,ae s.a s.b t.b=B:=⟨_,rfl⟩;obtain⟨C,hC⟩:∃C,ae t.a t.b s.a=C:=⟨_,rfl⟩;obtain⟨D,n⟩:∃D,ae t.a t.b s.b=D:=⟨_,rfl⟩;have w:ah s.a s.b t.a=eO A 0:=by unfold ah;rw[if_pos q,hA]
  have E:ah s.a s.b t.b=eO B 0:=by unfold ah;rw[if_pos u,m]
  have O:ah t.a t.b s.a=eO C 0:=by unfold ah;rw[if_pos J,hC]
  have P:ah t.a t.b s.b=eO D 0:=by unfold ah;rw[if_pos K,n]
  rw[w,E,O,P];unfold cO;rw[if_pos ?_];rw[w,E]at d;have V:B-A=C-D:=by rw[←hA,←m,←hC,←n];unfold ae;grind
  have W:B*f t.a-A*f t.b=C*f s.b-D*f s.a:=by
   rw[←hA,←m,←hC,←n];rcases o with rfl|rfl
   ·unfold ae;grind
   ·unfold ae;grind
  have BD:∀x y:Int,0<eO x 0*eO y 0↔(0<x∧0<y)∨(x<0∧y<0):=by
   intro x y;rcases bN x 0 with⟨g,k1⟩|⟨g,k1⟩|⟨g,k1⟩<;>rcases bN y 0 with⟨F,k2⟩|⟨F,k2⟩|⟨F,k2⟩<;>rw[k1,k2]<;>simp<;>omega
  rw[BD,BD];rcases Decidable.em ((0<A∧0<B∨A<0∧B<0)∨(0<C∧0<D∨C<0∧D<0))with G|G
  ·exact G
  exfalso;obtain⟨M,X⟩:∃M,max (f s.a) (f s.b)=M:=⟨_,rfl⟩;have m1:f s.a≤M:=O9;have m2:f s.b≤M:=O9;have m3:M+1≤f t.a:=O9;have m4:M+1≤f t.b:=O9;have z:¬(A=0∧B=0):=fun e=>d (.inr (.inr ⟨(oh _).2 e.1,(oh _).2 e.2⟩));rcases Int.lt_trichotomy (B-A) 0 with H|H|H
  ·have k1:=je m3 (show 0≤ -B by omega);have k2:=je m4 (show 0≤A by omega);have k3:=je m1 (show 0≤D by omega);have Q:=je m2 (show 0≤ -C by omega);(have R: -B*(M+1)+A*(M+1)=(A-B)*M+(A-B):=by grind);have S:D*M+ -C*M=(A-B)*M:=by
    have:D+ -C=A-B:=O9;rw[←this];grind
   (have T: -B*f t.a= -(B*f t.a):=by grind);(have U: -C*f s.b= -(C*f s.b):=by grind);omega
  ·omega
  ·have k1:=je m3 (show 0≤B by omega);have k2:=je m4 (show 0≤ -A by omega);have k3:=je m1 (show 0≤ -D by omega);have Q:=je m2 (show 0≤C by omega);(have R:B*(M+1)+ -A*(M+1)=(B-A)*M+(B-A):=by grind);have S: -D*M+C*M=(B-A)*M:=by
    have: -D+C=B-A:=O9;rw[←this];grind
   (have T: -A*f t.b= -(A*f t.b):=by grind);(have U: -D*f s.a= -(D*f s.a):=by grind);omega
theorem jf(f:Pt→Int)(a:f=Pt.x∨f=Pt.y){s t:Sg}(h:rZ f s t):meets s t=0:=by
 unfold meets;split
 ·rename_i b;refine yn f a (dE s) (dE t) ?_ (ym h);rw[gC,eQ,gC,eQ];exact b
 ·rfl
def pU(s t:Sg):Prop:=min s.a.x s.b.x≤max t.a.x t.b.x∧min t.a.x t.b.x≤max s.a.x s.b.x∧min s.a.y s.b.y≤max t.a.y t.b.y∧min t.a.y t.b.y≤max s.a.y s.b.y
theorem r9{s t:Sg}(h:meets s t≠0):pU s t:=by
 unfold pU;refine⟨?_,?_,?_,?_⟩
 ·rcases Int.lt_or_le (max t.a.x t.b.x) (min s.a.x s.b.x)with k|k
  ·exact absurd (by rw[cY];exact jf Pt.x (.inl rfl) k) h
  ·exact k
 ·rcases Int.lt_or_le (max s.a.x s.b.x) (min t.a.x t.b.x)with k|k
  ·exact absurd (jf Pt.x (.inl rfl) k) h
  ·exact k
 ·rcases Int.lt_or_le (max t.a.y t.b.y) (min s.a.y s.b.y)with k|k
  ·exact absurd (by rw[cY];exact jf Pt.y (.inr rfl) k) h
  ·exact k
 ·rcases Int.lt_or_le (max s.a.y s.b.y) (min t.a.y t.b.y)with k|k
  ·exact absurd (jf Pt.y (.inr rfl) k) h
  ·exact k
def gO(s t:Sg):Prop:=s.a=t.a∨s.a=t.b∨s.b=t.a∨s.b=t.b
theorem yp{s t:Sg}(h:gO (aO s) (aO t)):gO s t:=by
 unfold gO at*;unfold aO at h;split at h<;>split at h<;>(try simp only at h)
 ·rcases h with h|h|h|h
  ·exact .inr (.inr (.inr h))
  ·exact .inr (.inr (.inl h))
  ·exact .inr (.inl h)
  ·exact .inl h
 ·rcases h with h|h|h|h
  ·exact .inr (.inr (.inl h))
  ·exact .inr (.inr (.inr h))
  ·exact .inl h
  ·exact .inr (.inl h)
 ·rcases h with h|h|h|h
  ·exact .inr (.inl h)
  ·exact .inl h
  ·exact .inr (.inr (.inr h))
  ·exact .inr (.inr (.inl h))
 ·exact h
theorem lI{a b c d:Pt}(e:ae a b d-ae a b c≠0)(h:ae a b c=0)(i:ae c d a=0):a=c:=by
 obtain⟨ax,ay⟩:=a;obtain⟨bx,bY⟩:=b;obtain⟨cx,cy⟩:=c;obtain⟨dx,dy⟩:=d;simp only[ae]at*;have f:((bx-ax)*(dy-ay)-(bY-ay)*(dx-ax)-((bx-ax)*(cy-ay)-(bY-ay)*(cx-ax)))*(cx-ax)=0:=by grind
 have g:((bx-ax)*(dy-ay)-(bY-ay)*(dx-ax)-((bx-ax)*(cy-ay)-(bY-ay)*(cx-ax)))*(cy-ay)=0:=by grind
 have f1:=(Int.mul_eq_zero.1 f).resolve_left e;have f2:=(Int.mul_eq_zero.1 g).resolve_left e;rw[Pt.mk.injEq];omega
theorem IA{s t:Sg}(f:aD [s.a,s.b,t.a,t.b]=true)(h:bz s t=1):gO s t:=by
 have m:aD [s.a,s.b,t.a]=true:=by simp only[aD,Bool.and_eq_true]at f ⊢;exact⟨f.1,f.2.1,f.2.2.1,trivial⟩
 have n:aD [s.a,s.b,t.b]=true:=by simp only[aD,Bool.and_eq_true]at f ⊢;exact⟨f.1,f.2.1,f.2.2.2.1,trivial⟩
 have u:aD [t.a,t.b,s.a]=true:=by simp only[aD,Bool.and_eq_true]at f ⊢;exact⟨f.2.2.1,f.2.2.2.1,f.1,trivial⟩
 have v:aD [t.a,t.b,s.b]=true:=by simp only[aD,Bool.and_eq_true]at f ⊢;exact⟨f.2.2.1,f.2.2.2.1,f.2.1,trivial⟩
 unfold bz at h;unfold gO;split at h
 ·omega
 ·split at h
  ·unfold dc at h;split at h
   ·unfold mW at h;split at h
    ·split at h
     ·rename_i e;rcases e with e|e
      ·exact .inl e.symm
      ·exact .inr (.inr (.inl e.symm))
     ·omega
    ·omega
   ·rename_i o;split at h
    ·unfold mW at h;split at h
     ·split at h
      ·rename_i e;rcases e with e|e
       ·exact .inl e
       ·exact .inr (.inl e)
      ·omega
     ·omega
    ·rename_i q;have he:fB s t=di s t:=by
      refine(bH _ _).1 ?_;unfold fG at h;split at h
      ·omega
      ·split at h
       ·assumption
       ·omega
     unfold fB di at he;split at he<;>split at he
     ·exact absurd he o
     ·exact .inr (.inr (.inl he.symm))
     ·exact .inr (.inl he)
     ·exact absurd he q
  ·rename_i i;have g:(ah s.a s.b t.a=0∨ah s.a s.b t.b=0)∧(ah t.a t.b s.a=0∨ah t.a t.b s.b=0):=by
    unfold cO at h;split at h
    ·omega
    ·split at h
     ·omega
     ·split at h
      ·rename_i e;exact⟨Int.mul_eq_zero.1 e.1,Int.mul_eq_zero.1 e.2⟩
      ·omega
   have r:ae s.a s.b t.b-ae s.a s.b t.a≠0:=by
    intro e;refine i (.inr (.inr ?_));rw[aP _ _ _ m,aP _ _ _ n];rcases g.1 with k|k
    ·rw[aP _ _ _ m]at k;exact⟨k,O9⟩
    ·rw[aP _ _ _ n]at k;exact⟨O9,k⟩
   (have w:ae s.b s.a t.b-ae s.b s.a t.a= -(ae s.a s.b t.b-ae s.a s.b t.a):=by unfold ae;grind);(have j:∀p:Pt,ae s.b s.a p= -ae s.a s.b p:=fun p=>by unfold ae;grind);(have l:∀p:Pt,ae t.b t.a p= -ae t.a t.b p:=fun p=>by unfold ae;grind);rw[aP _ _ _ m,aP _ _ _ n,aP _ _ _ u,aP _ _ _ v]at g;obtain⟨k1|k1,k2|k2⟩:=g
   ·exact .inl (lI r k1 k2)
   ·exact .inr (.inr (.inl (lI (a:=s.b) (b:=s.a) (c:=t.a) (d:=t.b) O9 (by rw[j];omega) k2)))
   ·exact .inr (.inl (lI (a:=s.a) (b:=s.b) (c:=t.b) (d:=t.a) O9 k1 (by rw[l];omega)))
   ·exact .inr (.inr (.inr (lI (a:=s.b) (b:=s.a) (c:=t.b) (d:=t.a) O9 (by rw[j];omega) (by rw[l];omega))))
theorem kN{s t:Sg}(h:meets s t=1):gO s t:=by
 unfold meets at h;split at h
 ·rename_i a;refine yp (IA ?_ h);rw[gC,eQ,gC,eQ];exact a
 ·omega
structure Mt where
 a:Nat
 b:Nat
 kind:Int
deriving DecidableEq
def BS(x y:Mt):Prop:=x.a<y.a∨(x.a=y.a∧x.b<y.b)
def ep(l:List Sg):List Mt:=
 (List.range l.length).flatMap fun i=>(List.range l.length).filterMap fun k=>
  match l[i]?,l[k]? with
  |some s,some t=>if i<k∧meets s t≠0 then some ⟨i,k,meets s t⟩else none
  |_,_=>none
theorem eR{l:List Sg}{m:Mt}:m∈ep l↔∃s t,l[m.a]? =some s∧l[m.b]? =some t∧m.a<m.b∧meets s t≠0∧m.kind=meets s t:=by
 unfold ep;rw[List.mem_flatMap];constructor
 ·rintro⟨i,_,h⟩;rw[List.mem_filterMap]at h;obtain⟨k,_,h⟩:=h;split at h
  ·rename_i s t hs c;split at h
   ·rename_i f;cases h;exact⟨s,t,hs,c,f.1,f.2,rfl⟩
   ·cases h
  ·cases h
 ·rintro⟨s,t,hs,c,d,e,g⟩;have j:m.a<l.length:=(List.getElem?_eq_some_iff.1 hs).1;have n:m.b<l.length:=(List.getElem?_eq_some_iff.1 c).1;refine⟨m.a,List.mem_range.2 j,List.mem_filterMap.2 ⟨m.b,List.mem_range.2 n,?_⟩⟩;rw[hs,c];show(if m.a<m.b∧meets s t≠0 then some (⟨m.a,m.b,meets s t⟩:Mt)else none)=some m;rw[if_pos ⟨d,e⟩,←g]
theorem qo{α β:Type}{r:β→β→Prop}{q:α→α→Prop}{l:List α}{f:α→List β}(d:l.Pairwise q)(c:∀a∈l,(f a).Pairwise r)(e:∀a b,q a b→∀x∈f a,∀y∈f b,r x y):(l.flatMap f).Pairwise r:=by
 induction l with
 |nil=>exact List.Pairwise.nil
 |cons a l g=>
  rw[List.flatMap_cons,List.pairwise_append];have hp:=List.pairwise_cons.1 d;refine⟨c a (List.mem_cons_self ..),g hp.2 (fun b hb=>c b (List.mem_cons_of_mem _ hb)),fun x hx y hy=>?_⟩;obtain⟨b,hb,hy⟩:=List.mem_flatMap.1 hy;exact e a b (hp.1 b hb) x hx y hy
theorem oF{α β:Type}{r:β→β→Prop}{q:α→α→Prop}{l:List α}{f:α→Option β}(d:l.Pairwise q)(h:∀a b,q a b→∀x,f a=some x→∀y,f b=some y→r x y):(l.filterMap f).Pairwise r:=by
 rw[List.pairwise_filterMap];exact d.imp (fun e b hb g c=>h _ _ e b hb g c)
theorem vA(l:List Sg):(ep l).Pairwise BS:=by
 unfold ep;refine qo (q:=(·< ·)) List.pairwise_lt_range (fun i _=>?_) (fun i j a x hx y hy=>?_)
 ·refine oF (q:=(·< ·)) List.pairwise_lt_range (fun k k' b x hx y hy=>?_);split at hx
  ·split at hx
   ·cases hx;split at hy
    ·split at hy
     ·cases hy;exact .inr ⟨rfl,b⟩
     ·cases hy
    ·cases hy
   ·cases hx
  ·cases hx
 ·rw[List.mem_filterMap]at hx hy;obtain⟨k,_,hx⟩:=hx;obtain⟨k',_,hy⟩:=hy;split at hx
  ·split at hx
   ·cases hx;split at hy
    ·split at hy
     ·cases hy;exact .inl a
     ·cases hy
    ·cases hy
   ·cases hx
  ·cases hx
theorem yq(x:Mt):¬BS x x:=fun h=>by
 rcases h with h|⟨_,h⟩<;>omega
theorem BU{x y z:Mt}(a:BS x y)(b:BS y z):BS x z:=by
 unfold BS at*;omega
theorem sf{α:Type}{r:α→α→Prop}(c:∀x,¬r x x)(tr:∀x y z,r x y→r y z→r x z):∀ {l m:List α},l.Pairwise r→m.Pairwise r→(∀x,x∈l↔x∈m)→l=m:=by
 intro l;induction l with
 |nil=>
  intro m _ _ h;cases m with
  |nil=>rfl
  |cons b m=>exact absurd ((h b).2 (List.mem_cons_self ..)) (by simp)
 |cons a l j=>
  intro m k hm h;cases m with
  |nil=>exact absurd ((h a).1 (List.mem_cons_self ..)) (by simp)
  |cons b m=>
   have d:=List.pairwise_cons.1 k;have f:=List.pairwise_cons.1 hm;have g:a=b:=by
    rcases List.mem_cons.1 ((h a).1 (List.mem_cons_self ..))with e|e
    ·exact e
    ·rcases List.mem_cons.1 ((h b).2 (List.mem_cons_self ..))with i|i
     ·exact i.symm
     ·exact absurd (tr _ _ _ (d.1 b i) (f.1 a e)) (c a)
   subst g;congr 1;refine j d.2 f.2 (fun x=>⟨fun hx=>?_,fun hx=>?_⟩)
   ·rcases List.mem_cons.1 ((h x).1 (List.mem_cons_of_mem _ hx))with e|e
    ·subst e;exact absurd (d.1 x hx) (c x)
    ·exact e
   ·rcases List.mem_cons.1 ((h x).2 (List.mem_cons_of_mem _ hx))with e|e
    ·subst e;exact absurd (f.1 x hx) (c x)
    ·exact e
structure It where
 ix:Nat
 s:Sg
deriving DecidableEq
def It.xl(i:It):Int:=min i.s.a.x i.s.b.x
def It.xh(i:It):Int:=max i.s.a.x i.s.b.x
def It.yl(i:It):Int:=min i.s.a.y i.s.b.y
def It.yh(i:It):Int:=max i.s.a.y i.s.b.y
def cP:Nat→List Sg→List It
 |_,[]=>[]
 |k,s::l=>⟨k,s⟩::cP (k+1) l
def sg(a b:It):Bool:=decide (a.yl≤b.yh)&&decide (b.yl≤a.yh)
def eS(a b:It):Option Mt:=if sg a b=true∧meets a.s b.s≠0 then some ⟨min a.ix b.ix,max a.ix b.ix,meets a.s b.s⟩else none
def eL(a:It)(done:List It):List It:=done.filter (fun b=> !decide (b.xh<a.xl))
def er:List It→List It→List Mt
 |_,[]=>[]
 |done,a::r=>(eL a done).filterMap (eS a)++er (done++[a]) r
theorem yr{done r:List It}{m:Mt}:m∈er done r↔∃(p:List It)(a b:It)(q:List It),r=p++a::q∧b∈eL a (done++p)∧eS a b=some m:=by
 induction r generalizing done with
 |nil=>
  refine⟨fun h=>(by cases h),fun⟨p,a,b,q,h,_⟩=>?_⟩;cases p<;>simp at h
 |cons a r e=>
  rw[er,List.mem_append,e,List.mem_filterMap];constructor
  ·rintro(⟨b,hb,hm⟩|⟨p,d,b,q,rfl,hb,hm⟩)
   ·exact⟨[],a,b,r,rfl,by simpa using hb,hm⟩
   ·exact⟨a::p,d,b,q,rfl,by simpa using hb,hm⟩
  ·rintro⟨p,d,b,q,h,hb,hm⟩;cases p with
   |nil=>
    cases h;exact .inl ⟨b,by simpa using hb,hm⟩
   |cons c p=>
    cases h;exact .inr ⟨p,d,b,q,rfl,by simpa using hb,hm⟩
theorem mB{l:List Sg}{k:Nat}{i:It}:i∈cP k l↔∃j,i.ix=k+j∧l[j]? =some i.s:=by
 induction l generalizing k with
 |nil=>simp[cP]
 |cons s l c=>
  rw[cP,List.mem_cons,c];constructor
  ·rintro(rfl|⟨j,b,a⟩)
   ·exact⟨0,rfl,rfl⟩
   ·exact⟨j+1,O9,by simpa using a⟩
  ·rintro⟨j,b,a⟩;cases j with
   |zero=>
    left;simp at a;cases i;simp only at b a;subst b a;rfl
   |succ j=>exact .inr ⟨j,O9,by simpa using a⟩
theorem jT(l:List Sg)(k:Nat):(cP k l).Pairwise (fun a b=>a.ix≠b.ix):=by
 induction l generalizing k with
 |nil=>exact List.Pairwise.nil
 |cons s l c=>
  rw[cP,List.pairwise_cons];refine⟨fun b hb=>?_,c _⟩;obtain⟨j,d,_⟩:=mB.1 hb;show k≠b.ix;omega
theorem jU{a b:It}{m:Mt}(h:eS a b=some m):meets a.s b.s≠0∧m=⟨min a.ix b.ix,max a.ix b.ix,meets a.s b.s⟩:=by
 unfold eS at h;split at h
 ·rename_i c;cases h;exact⟨c.2,rfl⟩
 ·cases h
theorem vB{a b:It}(h:meets a.s b.s≠0):eS a b=some ⟨min a.ix b.ix,max a.ix b.ix,meets a.s b.s⟩:=by
 have hy:sg a b=true:=by
  have:=r9 h;unfold pU at this;unfold sg It.yl It.yh;rw[Bool.and_eq_true,decide_eq_true_eq,decide_eq_true_eq];omega
 unfold eS;exact if_pos ⟨hy,h⟩
theorem oG{l:List Sg}{r:List It}(hp:r.Perm (cP 0 l))(hs:r.Pairwise (fun a b=>a.xl≤b.xl))(m:Mt):m∈er [] r↔m∈ep l:=by
 have v:r.Pairwise (fun a b=>a.ix≠b.ix):=(hp.pairwise_iff (fun h e=>h e.symm)).2 (jT l 0);have d:∀a:It,a∈r↔l[a.ix]? =some a.s:=fun a=>by
  rw[hp.mem_iff,mB];constructor
  ·rintro⟨j,w,z⟩;rw[w,Nat.zero_add];exact z
  ·exact fun h=>⟨a.ix,O9,h⟩
 rw[yr,eR];constructor
 ·rintro⟨p,a,b,q,rfl,hb,hm⟩;obtain⟨c,rfl⟩:=jU hm;have i:b∈p:=by
   have:=(List.mem_filter.1 hb).1;simpa using this
  have ha:=(d a).1 (by simp);have k:=(d b).1 (by simp[i]);have E:b.ix≠a.ix:=(List.pairwise_append.1 v).2.2 b i a (List.mem_cons_self ..);simp only;rcases Nat.lt_or_ge a.ix b.ix with h|h
  ·rw[show min a.ix b.ix=a.ix by omega,show max a.ix b.ix=b.ix by omega];exact⟨_,_,ha,k,h,c,rfl⟩
  ·rw[show min a.ix b.ix=b.ix by omega,show max a.ix b.ix=a.ix by omega];exact⟨_,_,k,ha,O9,by rw[cY];exact c,cY _ _⟩
 ·rintro⟨s,t,w,z,F,c,D⟩;have ha:(⟨m.a,s⟩:It)∈r:=(d _).2 w;have hb:(⟨m.b,t⟩:It)∈r:=(d _).2 z;have key:∀(x y:It)(n f A:List It),r=n++x::(f++y::A)→meets x.s y.s≠0→min y.ix x.ix=m.a→max y.ix x.ix=m.b→m.kind=meets y.s x.s→∃p a b q,r=p++a::q∧b∈eL a ([]++p)∧eS a b=some m:=by
   rintro x y n f A rfl o g u G;refine⟨n++x::f,y,x,A,by simp,List.mem_filter.2 ⟨by simp,?_⟩,?_⟩
   ·have B:=r9 o;unfold pU at B;rw[Bool.not_eq_true',decide_eq_false_iff_not];unfold It.xh It.xl;omega
   ·rw[vB (by rw[cY];exact o),g,u,←G]
  obtain⟨n,H,g⟩:=List.append_of_mem ha;rw[g]at hb;rcases List.mem_append.1 hb with hb|hb
  ·obtain⟨f,C,u⟩:=List.append_of_mem hb;rw[u,List.append_assoc]at g;exact key ⟨m.b,t⟩ ⟨m.a,s⟩ f C H g (by rw[cY];exact c) (by show min m.a m.b=_;omega) (by show max m.a m.b=_;omega) D
  ·rcases List.mem_cons.1 hb with e|hb
   ·have:=congrArg It.ix e;simp only at this;omega
   ·obtain⟨f,C,u⟩:=List.append_of_mem hb;rw[u]at g;exact key ⟨m.a,s⟩ ⟨m.b,t⟩ n f C g c (by show min m.b m.a=_;omega) (by show max m.b m.a=_;omega) (by rw[D];exact cY _ _)
theorem Ez{a b:It}{done:List It}(h:a.xl≤b.xl):(eL a done++[a]).filter (fun c=> !decide (c.xh<b.xl))=eL b (done++[a]):=by
 unfold eL;rw[List.filter_append,List.filter_append,List.filter_filter];congr 1;refine List.filter_congr (fun c _=>?_);by_cases d:c.xh<b.xl
 ·simp[d]
 ·have:¬c.xh<a.xl:=by omega
  simp[d,this]
theorem vC{l:List Sg}{r:List It}(hp:r.Perm (cP 0 l)):(er [] r).Nodup:=by
 have j:r.Pairwise (fun a b=>a.ix≠b.ix):=(hp.pairwise_iff (fun h e=>h e.symm)).2 (jT l 0);have key:∀(r done:List It),(done++r).Pairwise (fun a b=>a.ix≠b.ix)→(er done r).Pairwise (fun x y:Mt=>x≠y)∧∀m∈er done r,∃a∈r,a.ix=m.a∨a.ix=m.b:=by
  intro r;induction r with
  |nil=>intro done _;exact⟨List.Pairwise.nil,fun m h=>by cases h⟩
  |cons a r s=>
   intro done p;obtain⟨i1,i2⟩:=s (done++[a]) (by rw[List.append_assoc];exact p);have d:=(List.pairwise_append.1 p);have g:∀b∈done,b.ix≠a.ix:=fun b hb=>d.2.2 b hb a (List.mem_cons_self ..);have k:=(List.pairwise_cons.1 d.2.1).1;rw[er];have n:((eL a done).filterMap (eS a)).Pairwise (fun x y:Mt=>x≠y):=by
    rw[List.pairwise_filterMap];refine(List.Pairwise.and_mem.1 (d.1.filter _)).imp ?_;rintro b c ⟨hb,f,t⟩ x hx y hy e;obtain⟨_,rfl⟩:=jU hx;obtain⟨_,rfl⟩:=jU hy;have q:=g b (List.mem_filter.1 hb).1;have o:=g c (List.mem_filter.1 f).1;have u:=congrArg Mt.a e;have v:=congrArg Mt.b e;simp only at u v;omega
   have i:∀m∈(eL a done).filterMap (eS a),∃b∈done,(m.a=a.ix∧m.b=b.ix)∨(m.a=b.ix∧m.b=a.ix):=by
    intro m hm;obtain⟨b,hb,hx⟩:=List.mem_filterMap.1 hm;obtain⟨_,rfl⟩:=jU hx;refine⟨b,(List.mem_filter.1 hb).1,?_⟩;simp only;omega
   refine⟨List.pairwise_append.2 ⟨n,i1,fun x hx y hy e=>?_⟩,fun m hm=>?_⟩
   ·subst e;obtain⟨b,hb,q⟩:=i x hx;obtain⟨c,f,o⟩:=i2 x hy;have w:=k c f;have z:=d.2.2 b hb c (List.mem_cons_of_mem _ f);omega
   ·rcases List.mem_append.1 hm with hm|hm
    ·obtain⟨b,_,q⟩:=i m hm;exact⟨a,List.mem_cons_self ..,O9⟩
    ·obtain⟨c,f,o⟩:=i2 m hm;exact⟨c,List.mem_cons_of_mem _ f,o⟩
 exact(key r [] (by simpa using j)).1
theorem BV{l:List Sg}{r:List It}{o:List Mt}(hp:r.Perm (cP 0 l))(hs:r.Pairwise (fun a b=>a.xl≤b.xl))(d:o.Perm (er [] r))(e:o.Pairwise (fun x y=>¬BS y x)):o=ep l:=by
 refine sf yq (fun _ _ _=>BU) ?_ (vA l) (fun x=>by rw[d.mem_iff,oG hp hs]);have f:o.Nodup:=d.nodup_iff.2 (vC hp);refine(List.Pairwise.and_mem.1 (e.and f)).imp ?_;rintro x y ⟨hx,hy,g,j⟩;unfold BS at g ⊢;rcases Nat.lt_trichotomy x.a y.a with h|h|h
 ·exact .inl h
 ·rcases Nat.lt_trichotomy x.b y.b with c|c|c
  ·exact .inr ⟨h,c⟩
  ·exfalso;refine j ?_;rw[d.mem_iff,oG hp hs,eR]at hx hy;obtain⟨s,t,a1,a2,_,_,a3⟩:=hx;obtain⟨k,m,b1,b2,_,_,i⟩:=hy;rw[h,b1]at a1;rw[c,b2]at a2;cases a1;cases a2;cases x;cases y;simp only at h c a3 i;rw[h,c,a3,i]
  ·exact absurd (.inr ⟨h.symm,c⟩) g
 ·exact absurd (.inl h) g
end Go.Proofs.Pto
namespace Go.Proofs.Px
abbrev B:=UInt8
abbrev L:=List UInt8
def cQ(c:B):Bool:=(97≤c&&c≤122)||(65≤c&&c≤90)
def isDigit(c:B):Bool:=48≤c&&c≤57
def isWord(c:B):Bool:=cQ c||isDigit c||c ==95
def nv(c:B):Bool:=c ==32||c ==9||c ==10
def AN(c:B):Bool:=[59,44,46,58,40,41,123,125,91,93,61,60,62,47,45].contains c
structure Jn where
 kind:Nat
 text:L
 off:Nat
def name(l:L):Bool:=l.all isWord&&(match l with| []=>false|c::_=>cQ c)&&l.length≤24
def tQ:L→L
 | []=>[]
 |c::l=>if c ==10 then 92::110::tQ l else if c ==34||c ==92 then 92::c::tQ l else c::tQ l
def quote(l:L):L:=34::(tQ l++[34])
def GJ:Bool→L→Option (L×Nat)
 |_,[]=>none
 |false,c::l=>
  if c ==34 then some ([],1)else if c ==10 then none else if c ==92 then (GJ true l).map (fun r=>(r.1,r.2+1))
  else (GJ false l).map (fun r=>(c::r.1,r.2+1))
 |true,d::l=>if d ==92||d ==34||d ==110 then (GJ false l).map (fun r=>((if d ==110 then 10 else d)::r.1,r.2+1))else none
def str(l:L):Option (L×Nat):=GJ false l
def wr(k:Nat)(t:L):L:=if k=3 then quote t else t
theorem vD(c:B)(h:cQ c=true):isWord c=true:=by simp[isWord,h]
