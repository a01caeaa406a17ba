/-
  The plain law of GeomShares.
-/
import Derived.Test.YtfkgjbdeicggaaaGreatZB
namespace Go.Proofs.Pg
theorem aL(a b:Pt):aN a b≤0↔(a.x<b.x∨(a.x=b.x∧a.y≤b.y)):=by
 unfold aN eO;(repeat' split)<;>omega
theorem dd(a b:Pt):aN a b<0↔(a.x<b.x∨(a.x=b.x∧a.y<b.y)):=by
 unfold aN eO;(repeat' split)<;>omega
theorem o0(a b:Pt):aN a b=0↔(a.x=b.x∧a.y=b.y):=by
 unfold aN eO;(repeat' split)<;>omega
theorem tD{a b:Pt}(c:a.x=b.x)(d:a.y=b.y):a=b:=by cases a;cases b;simp_all
theorem dp(s:Sg)(p:Pt)(h:aN s.a s.b≤0)(c:aF s.a=true)(d:aF s.b=true)(f:aF p=true):eD s p=true↔(ae s.a s.b p=0∧aN s.a p≤0∧aN p s.b≤0):=by
 have hs:=jb s h;have g:=aP s.a s.b p (by simp[aD,c,d,f]);unfold eD;rw[hs];simp only[aD,c,d,f,Bool.and_true,Bool.true_and,Bool.and_eq_true,beq_iff_eq,decide_eq_true_eq,Bool.or_eq_true,g,and_assoc];constructor
 ·rintro⟨g1,g2,g3,_⟩;exact⟨g1,g2,g3⟩
 ·rintro⟨g1,g2,g3⟩;refine⟨g1,g2,g3,?_⟩;rcases Decidable.em (s.a=s.b)with e|e
  ·right;rw[aL]at g2 g3;rw[←e]at g3;exact tD O9 O9
  ·exact .inl e
theorem bS(s:Sg)(p:Pt):eD (aO s) p=eD s p:=by
 have h:=jb (aO s) (dE s);unfold eD;rw[h];congr 1;unfold aO;split
 ·exact mu s.a s.b p p |> fun _=>by
   rw[Bool.eq_iff_iff];simp only[aD,Bool.and_true,Bool.and_eq_true];constructor<;>(rintro⟨c,d,e⟩;exact⟨d,c,e⟩)
 ·rfl
theorem jP(p q x y z:Pt)(c:p≠q)(m:ae p q x=0)(n:ae p q y=0)(o:ae p q z=0):ae x y z=0:=by
 obtain⟨px,py⟩:=p;obtain⟨d,f⟩:=q;obtain⟨a,b⟩:=x;obtain⟨g,yy⟩:=y;obtain⟨i,j⟩:=z;simp only[ae]at*;have e:d-px≠0∨f-py≠0:=by
  rcases Decidable.em (d-px=0)with h|h
  ·right;intro r;apply c;rw[Pt.mk.injEq];omega
  ·exact .inl h
 have k:(d-px)*((g-a)*(j-b)-(yy-b)*(i-a))=0:=by grind
 have l:(f-py)*((g-a)*(j-b)-(yy-b)*(i-a))=0:=by grind
 rcases e with h|h
 ·exact(Int.mul_eq_zero.1 k).resolve_left h
 ·exact(Int.mul_eq_zero.1 l).resolve_left h
theorem Ii(a b p:Pt)(c:aN a b<0)(d:ae a b p=0)(f:aN a p≤0)(g:aN p b≤0):∃m n:Int,0≤m∧0≤n∧0<m+n∧(m+n)*p.x=m*a.x+n*b.x∧(m+n)*p.y=m*a.y+n*b.y:=by
 rw[dd]at c;rw[aL]at f g;unfold ae at d;rcases Decidable.em (a.x=b.x)with h|h
 ·refine⟨b.y-p.y,p.y-a.y,O9,O9,O9,?_,by grind⟩;have e:p.x=a.x:=O9;rw[e,←h];grind
 ·exact⟨b.x-p.x,p.x-a.x,O9,O9,O9,by grind,by grind⟩
theorem xZ(a b p u v:Pt)(m n:Int)(c:(m+n)*p.x=m*a.x+n*b.x)(d:(m+n)*p.y=m*a.y+n*b.y):(m+n)*ae u v p=m*ae u v a+n*ae u v b:=by
 unfold ae;grind
theorem vg(a b p:Pt)(m n:Int)(c:aN a b<0)(hm:0≤m)(i:0≤n)(hs:0<m+n)(q:(m+n)*p.x=m*a.x+n*b.x)(r:(m+n)*p.y=m*a.y+n*b.y):aN a p≤0∧aN p b≤0:=by
 rw[dd]at c;rw[aL,aL];have key:∀s x y t z:Int,0<s→s*(x-y)=t*z→0≤t→(0≤z→y≤x)∧(0<t→0<z→y<x)∧(t=0→x=y)∧(z=0→x=y):=by
  intro s x y t z hs he d;refine⟨fun f=>?_,fun d f=>?_,fun e=>?_,fun e=>?_⟩
  ·rcases(by omega:y≤x∨0<y-x)with g|g
   ·exact g
   ·have k1:=Int.mul_pos hs g;have k2:=Int.mul_nonneg d f;(have k3:s*(y-x)= -(s*(x-y)):=by grind);omega
  ·rcases(by omega:y<x∨0≤y-x)with g|g
   ·exact g
   ·have k1:=Int.mul_nonneg (show 0≤s by omega) g;have k2:=Int.mul_pos d f;(have k3:s*(y-x)= -(s*(x-y)):=by grind);omega
  ·rw[e,Int.zero_mul]at he;have:=(Int.mul_eq_zero.1 he).resolve_left O9;omega
  ·rw[e,Int.mul_zero]at he;have:=(Int.mul_eq_zero.1 he).resolve_left O9;omega
 obtain⟨x1,j,k,l⟩:=key (m+n) p.x a.x n (b.x-a.x) hs (by grind) i;obtain⟨y1,u,o,v⟩:=key (m+n) p.y a.y n (b.y-a.y) hs (by grind) i;obtain⟨u1,u2,u3,u4⟩:=key (m+n) b.x p.x m (b.x-a.x) hs (by grind) hm;obtain⟨v1,v2,v3,v4⟩:=key (m+n) b.y p.y m (b.y-a.y) hs (by grind) hm;rcases c with h|⟨h,w⟩
 ·constructor
  ·rcases(by omega:n=0∨0<n)with e|e
   ·have:=k e;have:=o e;omega
   ·have:=j e O9;omega
  ·rcases(by omega:m=0∨0<m)with e|e
   ·have:=u3 e;have:=v3 e;omega
   ·have:=u2 e O9;omega
 ·have A:=l O9;have B:=u4 O9;have C:=y1 O9;have D:=v1 O9;omega
theorem inter(a b c d:Pt)(h:ae a b c=0):(ae c d a-ae c d b)*c.x=ae c d a*b.x-ae c d b*a.x∧(ae c d a-ae c d b)*c.y=ae c d a*b.y-ae c d b*a.y:=by
 unfold ae at*;constructor<;>grind
theorem en(a b c:Pt)(h:aD [a,b,c]=true):(ae a b c<0∧ah a b c= -1)∨(0<ae a b c∧ah a b c=1)∨(ae a b c=0∧ah a b c=0):=by
 unfold ah;rw[if_pos h];exact bN _ _
theorem low_cases(s t:Sg):(fB s t=s.a∧aN t.a s.a≤0)∨(fB s t=t.a∧aN s.a t.a<0):=by
 unfold fB;have:=fU t.a s.a;split
 ·right;exact⟨rfl,O9⟩
 ·left;exact⟨rfl,O9⟩
theorem qi(s t:Sg):(di s t=s.b∧aN s.b t.b≤0)∨(di s t=t.b∧aN t.b s.b<0):=by
 unfold di;have:=fU t.b s.b;split
 ·right;exact⟨rfl,O9⟩
 ·left;exact⟨rfl,O9⟩
def endsB(s t:Sg):Bool:=eD t s.a||eD t s.b||eD s t.a||eD s t.b
def eG(s t:Sg):Bool:=decide (ah s.a s.b t.a*ah s.a s.b t.b<0)&&decide (ah t.a t.b s.a*ah t.a t.b s.b<0)
structure kI(s t:Sg)(k:Int):Prop where
 one:∀p,aF p=true→eD s p=true→eD t p=true→k≠0
 two:∀p q,aF p=true→aF q=true→eD s p=true→eD t p=true→eD s q=true→eD t q=true→p≠q→k=4∨k=5
 apart:eG s t=true↔k=3
 ends:endsB s t=true↔(k≠0∧k≠3)
theorem my(s t:Sg):endsB s t=true↔endsB t s=true:=by
 unfold endsB;simp only[Bool.or_eq_true];constructor<;>(rintro(((h|h)|h)|h)<;>simp[h])
theorem kJ(s t:Sg):eG s t=eG t s:=by
 unfold eG;rw[Bool.and_comm]
theorem kI.symm{s t:Sg}{k:Int}(h:kI s t k):kI t s k:=
 ⟨fun p hp a b=>h.one p hp b a,fun p q hp c a b d e=>h.two p q hp c b a e d,by rw[kJ];exact h.apart,(my t s).trans h.ends⟩
theorem BH(a c:Pt):ah a a c=0:=by
 have:ae a a c=0:=by unfold ae;grind
 unfold ah;split
 ·rw[this];rfl
 ·rfl
theorem dW(s:Sg)(h:aN s.a s.b≤0)(c:aF s.a=true)(d:aF s.b=true):eD s s.a=true∧eD s s.b=true:=by
 have c1:=(bH s.a s.a).2 rfl;have c2:=(bH s.b s.b).2 rfl;obtain⟨e,f⟩:=cZ s.a s.b;exact⟨(dp s s.a h c d c).2 ⟨e,O9,h⟩,(dp s s.b h c d d).2 ⟨f,h,O9⟩⟩
theorem rP(s:Sg)(c:Pt)(hs:aN s.a s.b≤0)(j:aF s.a=true)(k:aF s.b=true)(l:aF c=true):kI s ⟨c,c⟩ (mW c s):=by
 have m:aN c c≤0:=by rw[(bH c c).2 rfl];exact Int.le_refl _
 have d:∀p,aF p=true→eD ⟨c,c⟩ p=true→p=c:=by
  intro p hp h;obtain⟨_,f,e⟩:=(dp ⟨c,c⟩ p m l l hp).1 h;rw[aL]at f e;simp only at f e;exact tD O9 O9
 have u:mW c s=0∨mW c s=1∨mW c s=2:=by unfold mW;(repeat' split)<;>simp
 have g:eD s c=true↔mW c s≠0:=by
  unfold mW;by_cases h:eD s c=true
  ·rw[if_pos h];simp only[h,true_iff];split<;>decide
  ·rw[if_neg h];simp[h]
 obtain⟨n,o⟩:=dW s hs j k;refine⟨fun p hp f e=>?_,fun p q hp r f e v t i=>?_,?_,?_⟩
 ·have:=d p hp e;subst this;exact g.1 f
 ·exact absurd ((d p hp e).trans (d q r t).symm) i
 ·have:eG s ⟨c,c⟩=false:=by unfold eG;simp[BH]
  rw[this];constructor
  ·intro h;exact absurd h (by decide)
  ·intro h;omega
 ·have:endsB s ⟨c,c⟩=true↔eD s c=true:=by
   unfold endsB;simp only[Bool.or_eq_true];constructor
   ·rintro(((h|h)|h)|h)
    ·rw[←d _ j h];exact n
    ·rw[←d _ k h];exact o
    ·exact h
    ·exact h
   ·intro h;simp[h]
  rw[this,g];omega
theorem vh(s t:Sg)(hs:aN s.a s.b<0)(N:aN t.a t.b<0)(m:aF s.a=true)(u:aF s.b=true)(n:aF t.a=true)(v:aF t.b=true)
  (w:ae s.a s.b t.a=0)(O:ae s.a s.b t.b=0):kI s t (fG (aN (fB s t) (di s t))):=by
 obtain⟨P,R⟩:=eF s.a s.b t.a t.b (fun e=>by rw[(bH s.a s.b).2 e]at hs;omega) w O;have os:=fun p hp=>dp s p O9 m u hp;have I:=fun p hp=>dp t p O9 n v hp;have f:=low_cases s t;have c:=qi s t;have o:=eP (fB s t) (di s t);have c0:=o0 (fB s t) (di s t);have c1:=dd (fB s t) (di s t);have c2:=aL (fB s t) (di s t);have A:=hs;have B:=N;rw[dd]at A B;rw[aL,dd]at f c;obtain⟨L,J⟩:∃L,fB s t=L:=⟨_,rfl⟩;obtain⟨G,K⟩:∃G,di s t=G:=⟨_,rfl⟩;rw[J]at f;rw[K]at c;rw[J,K]at o c0 c1 c2 ⊢
 have l:∀k,fG (aN L G)=k→(k=5∧aN L G<0)∨(k=1∧aN L G=0)∨(k=0∧0<aN L G):=by
  intro k l;unfold fG at l;rcases o with e|e|e<;>rw[e]at l ⊢ <;>simp at l<;>omega
 obtain⟨k,i⟩:∃k,fG (aN L G)=k:=⟨_,rfl⟩;have l:=l k i;rw[i];clear i;have j:∀p,aF p=true→eD s p=true→eD t p=true→aN L p≤0∧aN p G≤0:=by
  intro p hp g1 g2;obtain⟨_,a1,a2⟩:=(os p hp).1 g1;obtain⟨_,a3,a4⟩:=(I p hp).1 g2;constructor
  ·rcases f with⟨e,_⟩|⟨e,_⟩<;>rw[e]<;>assumption
  ·rcases c with⟨e,_⟩|⟨e,_⟩<;>rw[e]<;>assumption
 have d:∀p,aF p=true→eD s p=true→eD t p=true→k≠0:=by
  intro p hp g1 g2;obtain⟨i1,i2⟩:=j p hp g1 g2;rw[aL]at i1 i2;have:aN L G≤0:=c2.2 O9;omega
 obtain⟨C,D⟩:=dW s O9 m u;obtain⟨E,F⟩:=dW t O9 n v;refine⟨d,fun p q hp Q g1 g2 g3 g4 H=>?_,?_,?_⟩
 ·obtain⟨i1,i2⟩:=j p hp g1 g2;obtain⟨i3,i4⟩:=j q Q g3 g4;rw[aL]at i1 i2 i3 i4;have M:¬(p.x=q.x∧p.y=q.y):=fun h=>H (tD h.1 h.2);have:aN L G<0:=c1.2 O9;omega
 ·have:eG s t=false:=by
   have z:=(aP s.a s.b t.a (by simp[aD,m,u,n])).2 w;unfold eG;rw[z];simp
  rw[this];constructor
  ·intro h;exact absurd h (by decide)
  ·intro h;omega
 ·unfold endsB;simp only[Bool.or_eq_true];constructor
  ·rintro(((h|h)|h)|h)
   ·have:=d _ m C h;omega
   ·have:=d _ u D h;omega
   ·have:=d _ n h E;omega
   ·have:=d _ v h F;omega
  ·intro h;have hle:aN L G≤0:=O9;rw[c2]at hle;rcases f with⟨e,g⟩|⟨e,g⟩
   ·refine .inl (.inl (.inl ((I _ m).2 ⟨P,?_,?_⟩)))
    ·rw[aL];exact g
    ·rw[aL];rw[e]at hle;rcases c with⟨r,g2⟩|⟨r,g2⟩<;>rw[r]at hle<;>omega
   ·refine .inl (.inr ((os _ n).2 ⟨w,?_,?_⟩))
    ·rw[aL];omega
    ·rw[aL];rw[e]at hle;rcases c with⟨r,g2⟩|⟨r,g2⟩<;>rw[r]at hle<;>omega
theorem oq(s:Sg)(c d:Pt)(hs:aN s.a s.b<0)(e:aF s.a=true)(f:aF s.b=true)(g:aF c=true)
  (h:ae s.a s.b c=0)(j:¬(ae c d s.a=0∧ae c d s.b=0))(i:(0≤ae c d s.a∧ae c d s.b≤0)∨(ae c d s.a≤0∧0≤ae c d s.b)):eD s c=true:=by
 obtain⟨i1,i2⟩:=inter s.a s.b c d h;rw[dp s c O9 e f g];refine⟨h,?_⟩;generalize ae c d s.a=A at*;generalize ae c d s.b=B at*;rcases i with⟨g1,g2⟩|⟨g1,g2⟩
 ·exact vg s.a s.b c (-B) A hs O9 O9 O9 (by grind) (by grind)
 ·exact vg s.a s.b c B (-A) hs O9 O9 O9 (by grind) (by grind)
theorem nl(x y o p:Int)(hx:(x<0∧o= -1)∨(0<x∧o=1)∨(x=0∧o=0))(hy:(y<0∧p= -1)∨(0<y∧p=1)∨(y=0∧p=0)):(0<o*p↔(0<x∧0<y)∨(x<0∧y<0))∧(o*p<0↔(0<x∧y<0)∨(x<0∧0<y))∧(o*p=0↔x=0∨y=0):=by
 rcases hx with⟨h,rfl⟩|⟨h,rfl⟩|⟨h,rfl⟩<;>rcases hy with⟨a,rfl⟩|⟨a,rfl⟩|⟨a,rfl⟩<;>omega
theorem x7(a b c d k:Int)(h:cO a b c d=k):(k=0↔(0<a*b∨0<c*d))∧(k=3↔(a*b<0∧c*d<0)):=by
 unfold cO at h;generalize a*b=P at*;generalize c*d=Q at*;split at h
 ·omega
 ·split at h
  ·omega
  ·split at h<;>omega
theorem side(a b c d p:Pt)(e:aN c d<0)(h:ae a b p=0)(i:ae c d p=0)(j:aN c p≤0)(k:aN p d≤0):¬((0<ae a b c∧0<ae a b d)∨(ae a b c<0∧ae a b d<0)):=by
 intro l;obtain⟨m,n,hm,f,o,x1,q⟩:=Ii c d p e i j k;have hx:=xZ c d p a b m n x1 q;rw[h,Int.mul_zero]at hx;rcases l with⟨c1,c2⟩|⟨c1,c2⟩
 ·have k1:=Int.mul_nonneg hm (show 0≤ae a b c by omega);have k2:=Int.mul_nonneg f (show 0≤ae a b d by omega);rcases(by omega:0<m∨0<n)with g|g
  ·have:=Int.mul_pos g c1;omega
  ·have:=Int.mul_pos g c2;omega
 ·have k1:=Int.mul_nonneg hm (show 0≤ -ae a b c by omega);have k2:=Int.mul_nonneg f (show 0≤ -ae a b d by omega);rw[Int.mul_neg]at k1 k2;rcases(by omega:0<m∨0<n)with g|g
  ·have:=Int.mul_pos g (show 0< -ae a b c by omega);rw[Int.mul_neg]at this;omega
  ·have:=Int.mul_pos g (show 0< -ae a b d by omega);rw[Int.mul_neg]at this;omega
theorem Hu(x y:Int)(h:¬((0<x∧0<y)∨(x<0∧y<0))):(0≤x∧y≤0)∨(x≤0∧0≤y):=O9
theorem mz(c d a:Pt):ae d c a= -ae c d a:=by unfold ae;grind
theorem tE(s t:Sg)(hs:aN s.a s.b<0)(x:aN t.a t.b<0)(l:aF s.a=true)(m:aF s.b=true)(n:aF t.a=true)(o:aF t.b=true)
  (h:¬(ah s.a s.b t.a=0∧ah s.a s.b t.b=0)):kI s t (cO (ah s.a s.b t.a) (ah s.a s.b t.b) (ah t.a t.b s.a) (ah t.a t.b s.b)):=by
 have y:s.a≠s.b:=fun e=>by rw[(bH s.a s.b).2 e]at hs;omega
 have u:t.a≠t.b:=fun e=>by rw[(bH t.a t.b).2 e]at x;omega
 have J:¬(ae s.a s.b t.a=0∧ae s.a s.b t.b=0):=fun e=>h ⟨(aP _ _ _ (by simp[aD,l,m,n])).2 e.1,(aP _ _ _ (by simp[aD,l,m,o])).2 e.2⟩;have C:¬(ae t.a t.b s.a=0∧ae t.a t.b s.b=0):=fun e=>J (eF t.a t.b s.a s.b u e.1 e.2);have os:=fun p hp=>dp s p (Int.le_of_lt hs) l m hp;have D:=fun p hp=>dp t p (Int.le_of_lt x) n o hp;obtain⟨K,V,E⟩:=nl _ _ _ _ (en s.a s.b t.a (by simp[aD,l,m,n])) (en s.a s.b t.b (by simp[aD,l,m,o]))
 obtain⟨L,W,F⟩:=nl _ _ _ _ (en t.a t.b s.a (by simp[aD,n,o,l])) (en t.a t.b s.b (by simp[aD,n,o,m]));have v:eG s t=true↔(ah s.a s.b t.a*ah s.a s.b t.b<0∧ah t.a t.b s.a*ah t.a t.b s.b<0):=by unfold eG;simp
 have M:∀p,aF p=true→eD s p=true→eD t p=true→¬(0<ah s.a s.b t.a*ah s.a s.b t.b)∧¬(0<ah t.a t.b s.a*ah t.a t.b s.b):=by
  intro p hp c1 c2;obtain⟨a1,a2,a3⟩:=(os p hp).1 c1;obtain⟨b1,b2,N⟩:=(D p hp).1 c2;rw[K,L];exact⟨side s.a s.b t.a t.b p x a1 b1 b2 N,side t.a t.b s.a s.b p hs b1 a1 a2 a3⟩
 obtain⟨k,w⟩:∃k,cO (ah s.a s.b t.a) (ah s.a s.b t.b) (ah t.a t.b s.a) (ah t.a t.b s.b)=k:=⟨_,rfl⟩;rw[w];obtain⟨r,j⟩:=x7 _ _ _ _ _ w;clear w h;generalize ah s.a s.b t.a*ah s.a s.b t.b=P at*;generalize ah t.a t.b s.a*ah t.a t.b s.b=Q at*;obtain⟨O,R⟩:=dW s (Int.le_of_lt hs) l m;obtain⟨S,T⟩:=dW t (Int.le_of_lt x) n o;have f:∀p,aF p=true→eD s p=true→eD t p=true→k≠0:=by
  intro p hp g1 g2 e;obtain⟨c1,c2⟩:=M p hp g1 g2;rcases r.1 e with c|c
  ·exact c1 c
  ·exact c2 c
 refine⟨f,fun p q hp X c1 c2 c3 c4 G=>?_,v.trans j.symm,?_⟩
 ·obtain⟨a1,_,_⟩:=(os p hp).1 c1;obtain⟨a2,_,_⟩:=(D p hp).1 c2;obtain⟨a3,_,_⟩:=(os q X).1 c3;obtain⟨a4,_,_⟩:=(D q X).1 c4;obtain⟨b1,b2⟩:=eF s.a s.b p q y a1 a3;obtain⟨N,Y⟩:=eF t.a t.b p q u a2 a4;exact absurd ⟨jP p q s.a s.b t.a G b1 b2 N,jP p q s.a s.b t.b G b1 b2 Y⟩ J
 ·unfold endsB;simp only[Bool.or_eq_true];have H:Q=0→k≠3:=fun e U=>by have:=(j.1 U).2;rw[e]at this;exact absurd this (by decide)
  have I:P=0→k≠3:=fun e U=>by have:=(j.1 U).1;rw[e]at this;exact absurd this (by decide)
  constructor
  ·rintro(((c|c)|c)|c)
   ·exact⟨f _ l O c,H (F.2 (.inl ((D _ l).1 c).1))⟩
   ·exact⟨f _ m R c,H (F.2 (.inr ((D _ m).1 c).1))⟩
   ·exact⟨f _ n c S,I (E.2 (.inl ((os _ n).1 c).1))⟩
   ·exact⟨f _ o c T,I (E.2 (.inr ((os _ o).1 c).1))⟩
  ·rintro⟨k0,k3⟩;have f1:¬0<P:=fun e=>k0 (r.2 (.inl e));have f2:¬0<Q:=fun e=>k0 (r.2 (.inr e));have f3:P=0∨Q=0:=by
    have:¬(P<0∧Q<0):=fun e=>k3 (j.2 e);clear K V E L W F r j v;omega
   have g:=Hu _ _ (mt K.2 f1);have i:=Hu _ _ (mt L.2 f2);have bk:∀c d a b:Pt,((0≤ae c d a∧ae c d b≤0)∨(ae c d a≤0∧0≤ae c d b))→¬(ae c d a=0∧ae c d b=0)→((0≤ae d c a∧ae d c b≤0)∨(ae d c a≤0∧0≤ae d c b))∧¬(ae d c a=0∧ae d c b=0):=by
    intro c d a b g1 g2;rw[mz c d a,mz c d b];generalize ae c d a=A at*;generalize ae c d b=B at*;clear K V E L W F r j v;omega
   rcases f3 with z|z
   ·rcases E.1 z with z|z
    ·exact .inl (.inr (oq s t.a t.b hs l m n z C i))
    ·obtain⟨b1,b2⟩:=bk _ _ _ _ i C;exact .inr (oq s t.b t.a hs l m o z b2 b1)
   ·rcases F.1 z with z|z
    ·exact .inl (.inl (.inl (oq t s.a s.b x n o l z J g)))
    ·obtain⟨b1,b2⟩:=bk _ _ _ _ g J;exact .inl (.inl (.inr (oq t s.b s.a x n o m z b2 b1)))
theorem BI(s t:Sg)(hs:aN s.a s.b≤0)(p:aN t.a t.b≤0)(e:aF s.a=true)(g:aF s.b=true)(i:aF t.a=true)(l:aF t.b=true):kI s t (bz s t):=by
 have r:aD [s.a,s.b,t.a,t.b]=true:=by simp[aD,e,g,i,l]
 by_cases k:s=t
 ·have f:bz s t=4:=by unfold bz;rw[if_pos k]
  rw[f];subst k;obtain⟨q,u⟩:=dW s hs e g;refine⟨fun _ _ _ _=>by decide,fun _ _ _ _ _ _ _ _ _=>.inl rfl,?_,?_⟩
  ·have z:=(aP s.a s.b s.a (by simp[aD,e,g])).2 (cZ s.a s.b).1;unfold eG;rw[z];simp
  ·unfold endsB;simp[q]
 by_cases h:t.a=t.b
 ·have f:bz s t=mW t.a s:=by unfold bz dc;rw[if_neg k,if_pos (.inr (.inl h)),if_pos h]
  rw[f];obtain⟨c,d⟩:=t;simp only at h i;subst h;exact rP s c hs e g i
 by_cases j:s.a=s.b
 ·have f:bz s t=mW s.a t:=by unfold bz dc;rw[if_neg k,if_pos (.inl j),if_neg h,if_pos j]
  rw[f];obtain⟨c,d⟩:=s;simp only at j e;subst j;exact(rP t c p i l e).symm
 have m:aN s.a s.b<0:=by have:=mt (bH s.a s.b).1 j;omega
 have n:aN t.a t.b<0:=by have:=mt (bH t.a t.b).1 h;omega
 by_cases o:ah s.a s.b t.a=0∧ah s.a s.b t.b=0
 ·have f:bz s t=fG (aN (fB s t) (di s t)):=by unfold bz dc;rw[if_neg k,if_pos (.inr (.inr o)),if_neg h,if_neg j]
  rw[f];exact vh s t m n e g i l ((aP _ _ _ (by simp[aD,e,g,i])).1 o.1) ((aP _ _ _ (by simp[aD,e,g,l])).1 o.2)
 ·have f:bz s t=cO (ah s.a s.b t.a) (ah s.a s.b t.b) (ah t.a t.b s.a) (ah t.a t.b s.b):=by
   unfold bz;rw[if_neg k,if_neg (by simp only[h,j,false_or];exact o)]
  rw[f];exact tE s t m n e g i l o
theorem vj(a b c:Pt):aD [b,a,c]=aD [a,b,c]:=by
 rw[Bool.eq_iff_iff];simp only[aD,Bool.and_true,Bool.and_eq_true];constructor<;>(rintro⟨d,e,f⟩;exact⟨e,d,f⟩)
theorem o5(a b c:Pt):ah b a c= -ah a b c:=by
 have e:ae b a c= -ae a b c:=by unfold ae;grind
 unfold ah;rw[vj,e];split
 ·have d:=bN (-ae a b c) 0;have f:=bN (ae a b c) 0;omega
 ·rfl
theorem cB(s:Sg):aO s=s∨aO s=⟨s.b,s.a⟩:=by unfold aO;split<;>simp
theorem np(s t:Sg):eG (aO s) t=eG s t:=by
 rcases cB s with e|e<;>rw[e]
 unfold eG;simp only;rw[o5 s.a s.b t.a,o5 s.a s.b t.b,Int.neg_mul_neg,Int.mul_comm (ah t.a t.b s.b)]
theorem o6(s t:Sg):endsB (aO s) t=endsB s t:=by
 unfold endsB;rw[bS,bS];rcases cB s with e|e<;>rw[e]
 simp only;rw[Bool.or_comm (eD t s.b)]
theorem iy(s t:Sg)(f:aD [s.a,s.b,t.a,t.b]=true):kI s t (meets s t):=by
 have h:=f;simp only[aD,Bool.and_true,Bool.and_eq_true]at h;obtain⟨l,m,n,o⟩:=h;have m1:aF (aO s).a=true∧aF (aO s).b=true:=by rcases cB s with e|e<;>rw[e]<;>exact⟨by assumption,by assumption⟩
 have m2:aF (aO t).a=true∧aF (aO t).b=true:=by rcases cB t with e|e<;>rw[e]<;>exact⟨by assumption,by assumption⟩
 have:=BI (aO s) (aO t) (dE s) (dE t) m1.1 m1.2 m2.1 m2.2;have g:meets s t=bz (aO s) (aO t):=by unfold meets;rw[if_pos f]
 rw[g];refine⟨fun p hp c d=>this.one p hp (by rw[bS];exact c) (by rw[bS];exact d),fun p q hp i c d j k=>this.two p q hp i (by rw[bS];exact c) (by rw[bS];exact d) (by rw[bS];exact j) (by rw[bS];exact k),?_,?_⟩
 ·rw[←this.apart,np,kJ (s),kJ s (aO t),np]
 ·rw[←this.ends,o6,my s (aO t),o6,my]
def Eb(s:Sg)(p:Pt):Bool:=decide (s.a.x≤p.x∨s.b.x≤p.x)&&decide (p.x≤s.a.x∨p.x≤s.b.x)&&decide (s.a.y≤p.y∨s.b.y≤p.y)&&decide (p.y≤s.a.y∨p.y≤s.b.y)&&(ae s.a s.b p ==0)
theorem gZ(s:Sg)(p:Pt)(h:aD [s.a,s.b,p]=true):eD s p=Eb s p:=by
 have q:=h;simp only[aD,Bool.and_true,Bool.and_eq_true]at q;obtain⟨r,t,u⟩:=q;have hle:=dE s;rw[←bS];have key:∀a b:Pt,aF a=true→aF b=true→aN a b≤0→(eD ⟨a,b⟩ p=true↔Eb ⟨a,b⟩ p=true):=by
  intro a b ha hb d;rw[dp ⟨a,b⟩ p d ha hb u];simp only[Eb,Bool.and_eq_true,decide_eq_true_eq,beq_iff_eq];rw[aL,aL];rw[aL]at d;constructor
  ·rintro⟨c,i,j⟩;refine⟨⟨⟨⟨O9,O9⟩,?_⟩,?_⟩,c⟩
   ·rcases(by omega:a.x=b.x∨a.x<b.x)with e|e
    ·omega
    ·obtain⟨m,n,hm,k,l,v,o⟩:=Ii a b p ((dd a b).2 O9) c ((aL a p).2 i) ((aL p b).2 j);rcases(by omega:(a.y≤p.y∨b.y≤p.y)∨(p.y<a.y∧p.y<b.y))with g|⟨g1,g2⟩
     ·exact g
     ·have k1:=Int.mul_le_mul_of_nonneg_left (show p.y≤a.y-1 by omega) hm;have k2:=Int.mul_le_mul_of_nonneg_left (show p.y≤b.y-1 by omega) k;(have k3:(m+n)*p.y=m*p.y+n*p.y:=by grind);(have w:m*(a.y-1)=m*a.y-m:=by grind);(have z:n*(b.y-1)=n*b.y-n:=by grind);omega
   ·rcases(by omega:a.x=b.x∨a.x<b.x)with e|e
    ·omega
    ·obtain⟨m,n,hm,k,l,v,o⟩:=Ii a b p ((dd a b).2 O9) c ((aL a p).2 i) ((aL p b).2 j);rcases(by omega:(p.y≤a.y∨p.y≤b.y)∨(a.y<p.y∧b.y<p.y))with g|⟨g1,g2⟩
     ·exact g
     ·have k1:=Int.mul_le_mul_of_nonneg_left (show a.y+1≤p.y by omega) hm;have k2:=Int.mul_le_mul_of_nonneg_left (show b.y+1≤p.y by omega) k;(have k3:(m+n)*p.y=m*p.y+n*p.y:=by grind);(have w:m*(a.y+1)=m*a.y+m:=by grind);(have z:n*(b.y+1)=n*b.y+n:=by grind);omega
  ·rintro⟨⟨⟨⟨i,j⟩,A⟩,B⟩,c⟩;refine⟨c,?_,?_⟩
   ·rcases(by omega:a.x<p.x∨a.x=p.x)with e|e
    ·exact .inl e
    ·rcases(by omega:a.x=b.x∨a.x<b.x)with f|f
     ·omega
     ·right;refine⟨e,?_⟩;unfold ae at c;simp only[←e,Int.sub_self,Int.mul_zero,Int.sub_zero]at c;have:=(Int.mul_eq_zero.1 c).resolve_left O9;omega
   ·rcases(by omega:p.x<b.x∨p.x=b.x)with e|e
    ·exact .inl e
    ·rcases(by omega:a.x=b.x∨a.x<b.x)with f|f
     ·omega
     ·right;refine⟨e,?_⟩;unfold ae at c;(have o:(b.x-a.x)*(p.y-a.y)-(b.y-a.y)*(p.x-a.x)=(b.x-a.x)*(p.y-b.y):=by rw[e];grind);rw[o]at c;have:=(Int.mul_eq_zero.1 c).resolve_left O9;omega
 rcases cB s with e|e
 ·have:=key s.a s.b r t (by rw[e]at hle;exact hle);rw[e,Bool.eq_iff_iff];exact this
 ·rw[e]at hle ⊢;rw[Bool.eq_iff_iff,key s.b s.a t r hle];simp only[Eb,Bool.and_eq_true,decide_eq_true_eq,beq_iff_eq];have:ae s.b s.a p=0↔ae s.a s.b p=0:=by
   (have:ae s.b s.a p= -ae s.a s.b p:=by unfold ae;grind);omega
  rw[this];constructor<;>(rintro⟨⟨⟨⟨g1,g2⟩,g3⟩,g4⟩,g5⟩;exact⟨⟨⟨⟨g1.symm,g2.symm⟩,g3.symm⟩,g4.symm⟩,g5⟩)
def DI(s:Sg)(c:Pt):Prop:=c=s.a∨c=s.b
structure Ends(s t:Sg)(k:Int):Prop where
 five:k=5→∃p q,p≠q∧(DI s p∨DI t p)∧(DI s q∨DI t q)∧eD s p=true∧eD t p=true∧eD s q=true∧eD t q=true
 one:k=1→∃c,DI s c∧DI t c
 two:k=2→∀c,¬(DI s c∧DI t c)
theorem Ends.symm{s t:Sg}{k:Int}(h:Ends s t k):Ends t s k:=
 ⟨fun e=>by obtain⟨p,q,a,b,f,g,i,j,l⟩:=h.five e;exact⟨p,q,a,b.symm,f.symm,i,g,l,j⟩,
 fun e=>by obtain⟨c,a,b⟩:=h.one e;exact⟨c,b,a⟩,fun e c d=>h.two e c ⟨d.2,d.1⟩⟩
theorem Ak(s:Sg)(c:Pt):Ends s ⟨c,c⟩ (mW c s):=by
 refine⟨fun e=>?_,fun e=>?_,fun e d b=>?_⟩
 ·unfold mW at e;(repeat' split at e)<;>omega
 ·unfold mW at e;split at e
  ·split at e
   ·exact⟨c,by assumption,.inl rfl⟩
   ·omega
  ·omega
 ·unfold mW at e;obtain⟨f,a⟩:=b;have:d=c:=by rcases a with a|a<;>exact a
  subst this;split at e
  ·split at e
   ·omega
   ·rename_i g;exact g f
  ·omega
theorem BJ(s t:Sg)(hs:aN s.a s.b<0)(B:aN t.a t.b<0)(n:aF s.a=true)(o:aF s.b=true)(q:aF t.a=true)(r:aF t.b=true)
  (v:ae s.a s.b t.a=0)(w:ae s.a s.b t.b=0):Ends s t (fG (aN (fB s t) (di s t))):=by
 obtain⟨C,D⟩:=eF s.a s.b t.a t.b (fun e=>by rw[(bH s.a s.b).2 e]at hs;omega) v w;have os:=fun p hp=>dp s p O9 n o hp;have x:=fun p hp=>dp t p O9 q r hp;have d:=low_cases s t;have c:=qi s t;have k:=hs;have l:=B;rw[dd]at k l;rw[aL,dd]at d c;have u:=eP (fB s t) (di s t);have c0:=o0 (fB s t) (di s t);have c1:=dd (fB s t) (di s t);obtain⟨L,y⟩:∃L,fB s t=L:=⟨_,rfl⟩;obtain⟨G,z⟩:∃G,di s t=G:=⟨_,rfl⟩;rw[y]at d;rw[z]at c;rw[y,z]at u c0 c1 ⊢;refine⟨fun e=>?_,fun e=>?_,fun e=>?_⟩
 ·have f:aN L G<0:=by unfold fG at e;(repeat' split at e)<;>omega
  rw[c1]at f;refine⟨L,G,fun h=>by rw[h]at f;omega,?_,?_,?_,?_,?_,?_⟩
  ·rcases d with⟨e,_⟩|⟨e,_⟩<;>rw[e]
   ·exact .inl (.inl rfl)
   ·exact .inr (.inl rfl)
  ·rcases c with⟨e,_⟩|⟨e,_⟩<;>rw[e]
   ·exact .inl (.inr rfl)
   ·exact .inr (.inr rfl)
  ·rcases d with⟨e,g⟩|⟨e,g⟩<;>rw[e]
   ·exact(dW s O9 n o).1
   ·rw[e]at f;refine(os _ q).2 ⟨v,(aL _ _).2 O9,(aL _ _).2 ?_⟩;rcases c with⟨i,g2⟩|⟨i,g2⟩<;>rw[i]at f<;>omega
  ·rcases d with⟨e,g⟩|⟨e,g⟩<;>rw[e]
   ·rw[e]at f;refine(x _ n).2 ⟨C,(aL _ _).2 O9,(aL _ _).2 ?_⟩;rcases c with⟨i,g2⟩|⟨i,g2⟩<;>rw[i]at f<;>omega
   ·exact(dW t O9 q r).1
  ·rcases c with⟨e,g⟩|⟨e,g⟩<;>rw[e]
   ·exact(dW s O9 n o).2
   ·rw[e]at f;refine(os _ r).2 ⟨w,(aL _ _).2 ?_,(aL _ _).2 O9⟩;rcases d with⟨i,g2⟩|⟨i,g2⟩<;>rw[i]at f<;>omega
  ·rcases c with⟨e,g⟩|⟨e,g⟩<;>rw[e]
   ·rw[e]at f;refine(x _ o).2 ⟨D,(aL _ _).2 ?_,(aL _ _).2 O9⟩;rcases d with⟨i,g2⟩|⟨i,g2⟩<;>rw[i]at f<;>omega
   ·exact(dW t O9 q r).2
 ·have A:aN L G=0:=by unfold fG at e;(repeat' split at e)<;>omega
  have j:L=G:=tD (c0.1 A).1 (c0.1 A).2;rcases d with⟨m,g1⟩|⟨m,g1⟩<;>rcases c with⟨i,g2⟩|⟨i,g2⟩
  ·rw[m,i]at j;rw[j]at k;omega
  ·exact⟨s.a,.inl rfl,.inr (by rw[←m,j,i])⟩
  ·exact⟨t.a,.inr (by rw[←m,j,i]),.inl rfl⟩
  ·rw[m,i]at j;rw[j]at l;omega
 ·unfold fG at e;(repeat' split at e)<;>omega
theorem x8(s t:Sg)(hs:aN s.a s.b<0)(u:aN t.a t.b<0)(f:aF s.a=true)(i:aF s.b=true)(k:aF t.a=true)(l:aF t.b=true)
  (h:¬(ah s.a s.b t.a=0∧ah s.a s.b t.b=0)):Ends s t (cO (ah s.a s.b t.a) (ah s.a s.b t.b) (ah t.a t.b s.a) (ah t.a t.b s.b)):=by
 have o:s.a≠s.b:=fun e=>by rw[(bH s.a s.b).2 e]at hs;omega
 have p:t.a≠t.b:=fun e=>by rw[(bH t.a t.b).2 e]at u;omega
 have m:¬(ae s.a s.b t.a=0∧ae s.a s.b t.b=0):=fun e=>h ⟨(aP _ _ _ (by simp[aD,f,i,k])).2 e.1,(aP _ _ _ (by simp[aD,f,i,l])).2 e.2⟩;obtain⟨z,A,q⟩:=nl _ _ _ _ (en s.a s.b t.a (by simp[aD,f,i,k])) (en s.a s.b t.b (by simp[aD,f,i,l]));obtain⟨B,C,r⟩:=nl _ _ _ _ (en t.a t.b s.a (by simp[aD,k,l,f])) (en t.a t.b s.b (by simp[aD,k,l,i]));have swap:∀a b c:Pt,ae b a c=0→ae a b c=0:=fun a b c e=>by rw[mz]at e;omega
 have rot:∀a b c:Pt,ae a b c=0→ae a c b=0:=fun a b c e=>by unfold ae at*;grind
 have same:∀a b c d:Pt,ae a b c=0→ae c d a=0→¬(ae a b c=0∧ae a b d=0)→a=c:=by
  intro a b c d v w x;rcases Decidable.em (a=c)with g|g
  ·exact g
  ·exfalso;have f1:ae a c a=0:=(cZ a c).1;have f2:ae a c b=0:=rot _ _ _ v;have f3:ae a c c=0:=(cZ a c).2;have f4:ae a c d=0:=by
    have:=rot _ _ _ w;exact swap _ _ _ this
   exact x ⟨jP a c a b c g f1 f2 f3,jP a c a b d g f1 f2 f4⟩
 refine⟨fun e=>?_,fun e=>?_,fun e c y=>?_⟩
 ·unfold cO at e;(repeat' split at e)<;>omega
 ·have n:ah s.a s.b t.a*ah s.a s.b t.b=0∧ah t.a t.b s.a*ah t.a t.b s.b=0:=by
   unfold cO at e;split at e
   ·omega
   ·split at e
    ·omega
    ·split at e
     ·assumption
     ·omega
  rcases q.1 n.1 with j|j<;>rcases r.1 n.2 with z2|z2
  ·exact⟨s.a,.inl rfl,.inl (same s.a s.b t.a t.b j z2 m)⟩
  ·refine⟨s.b,.inr rfl,.inl (same s.b s.a t.a t.b (swap _ _ _ j) z2 fun g=>m ⟨swap _ _ _ g.1,swap _ _ _ g.2⟩)⟩
  ·exact⟨s.a,.inl rfl,.inr (same s.a s.b t.b t.a j (swap _ _ _ z2) fun g=>m ⟨g.2,g.1⟩)⟩
  ·exact⟨s.b,.inr rfl,.inr (same s.b s.a t.b t.a (swap _ _ _ j) (swap _ _ _ z2) fun g=>m ⟨swap _ _ _ g.2,swap _ _ _ g.1⟩)⟩
 ·have n:¬(ah s.a s.b t.a*ah s.a s.b t.b=0∧ah t.a t.b s.a*ah t.a t.b s.b=0):=by
   unfold cO at e;split at e
   ·omega
   ·split at e
    ·omega
    ·split at e
     ·omega
     ·assumption
  obtain⟨c1,c2⟩:=y;refine n ⟨q.2 ?_,r.2 ?_⟩
  ·rcases c2 with c2|c2
   ·left;rw[←c2];rcases c1 with c1|c1<;>rw[c1]
    ·exact(cZ _ _).1
    ·exact(cZ _ _).2
   ·right;rw[←c2];rcases c1 with c1|c1<;>rw[c1]
    ·exact(cZ _ _).1
    ·exact(cZ _ _).2
  ·rcases c1 with c1|c1
   ·left;rw[←c1];rcases c2 with c2|c2<;>rw[c2]
    ·exact(cZ _ _).1
    ·exact(cZ _ _).2
   ·right;rw[←c1];rcases c2 with c2|c2<;>rw[c2]
    ·exact(cZ _ _).1
    ·exact(cZ _ _).2
theorem Gl(s t:Sg)(hs:aN s.a s.b≤0)(q:aN t.a t.b≤0)(m:aF s.a=true)(n:aF s.b=true)(o:aF t.a=true)(p:aF t.b=true):Ends s t (bz s t):=by
 by_cases i:s=t
 ·have f:bz s t=4:=by unfold bz;rw[if_pos i]
  rw[f];exact⟨fun e=>absurd e (by decide),fun e=>absurd e (by decide),fun e=>absurd e (by decide)⟩
 by_cases g:t.a=t.b
 ·have f:bz s t=mW t.a s:=by unfold bz dc;rw[if_neg i,if_pos (.inr (.inl g)),if_pos g]
  rw[f];obtain⟨c,d⟩:=t;simp only at g;subst g;exact Ak s c
 by_cases h:s.a=s.b
 ·have f:bz s t=mW s.a t:=by unfold bz dc;rw[if_neg i,if_pos (.inl h),if_neg g,if_pos h]
  rw[f];obtain⟨c,d⟩:=s;simp only at h;subst h;exact(Ak t c).symm
 have j:aN s.a s.b<0:=by have:=mt (bH s.a s.b).1 h;omega
 have k:aN t.a t.b<0:=by have:=mt (bH t.a t.b).1 g;omega
 by_cases l:ah s.a s.b t.a=0∧ah s.a s.b t.b=0
 ·have f:bz s t=fG (aN (fB s t) (di s t)):=by unfold bz dc;rw[if_neg i,if_pos (.inr (.inr l)),if_neg g,if_neg h]
  rw[f];exact BJ s t j k m n o p ((aP _ _ _ (by simp[aD,m,n,o])).1 l.1) ((aP _ _ _ (by simp[aD,m,n,p])).1 l.2)
 ·have f:bz s t=cO (ah s.a s.b t.a) (ah s.a s.b t.b) (ah t.a t.b s.a) (ah t.a t.b s.b):=by
   unfold bz;rw[if_neg i,if_neg (by simp only[g,h,false_or];exact l)]
  rw[f];exact x8 s t j k m n o p l
theorem fH(s:Sg)(c:Pt):DI (aO s) c↔DI s c:=by
 rcases cB s with e|e<;>rw[e]
 exact⟨Or.symm,Or.symm⟩
theorem Ec(s t:Sg)(g:aD [s.a,s.b,t.a,t.b]=true):Ends s t (meets s t):=by
 have h:=g;simp only[aD,Bool.and_true,Bool.and_eq_true]at h;obtain⟨r,u,v,w⟩:=h;have m1:aF (aO s).a=true∧aF (aO s).b=true:=by rcases cB s with e|e<;>rw[e]<;>exact⟨by assumption,by assumption⟩
 have m2:aF (aO t).a=true∧aF (aO t).b=true:=by rcases cB t with e|e<;>rw[e]<;>exact⟨by assumption,by assumption⟩
 have:=Gl (aO s) (aO t) (dE s) (dE t) m1.1 m1.2 m2.1 m2.2;have o:meets s t=bz (aO s) (aO t):=by unfold meets;rw[if_pos g]
 rw[o];refine⟨fun e=>?_,fun e=>?_,fun e c i=>this.two e c ⟨(fH s c).2 i.1,(fH t c).2 i.2⟩⟩
 ·obtain⟨p,q,f,d,j,k,l,m,n⟩:=this.five e;rw[bS]at k l m n;rw[fH,fH]at d j;exact⟨p,q,f,d,j,k,l,m,n⟩
 ·obtain⟨c,f,d⟩:=this.one e;exact⟨c,(fH s c).1 f,(fH t c).1 d⟩
theorem meets_same(s t:Sg)(j:aD [s.a,s.b,t.a,t.b]=true):meets s t=4↔(s=t∨(s.a=t.b∧s.b=t.a)):=by
 have k:meets s t=4↔aO s=aO t:=by
  unfold meets;rw[if_pos j];unfold bz;by_cases h:aO s=aO t
  ·simp[h]
  ·rw[if_neg h];simp only[h,iff_false];unfold dc mW fG cO
   (repeat' split)<;>omega
 rw[k];constructor
 ·intro h;rcases cB s with e|e<;>rcases cB t with f|f<;>rw[e,f]at h
  ·exact .inl h
  ·right;rw[h];exact⟨rfl,rfl⟩
  ·right;rw[←h];exact⟨rfl,rfl⟩
  ·left;obtain⟨a,b⟩:=s;obtain⟨c,d⟩:=t;simp only[Sg.mk.injEq]at h ⊢;exact⟨h.2,h.1⟩
 ·rintro(h|⟨g,i⟩)
  ·rw[h]
  ·(have:s=kG t:=by obtain⟨a,b⟩:=s;simp only at g i;subst g i;rfl);rw[this,mr]
def l8(f:Pt→Bool):List Pt→List Pt→List Pt
 |acc,[]=>acc
 |acc,p::l=>l8 f (if !acc.contains p&&f p then acc++[p]else acc) l
theorem Ed(f:Pt→Bool)(l:List Pt):∀acc x,x∈l8 f acc l↔(x∈acc∨(x∈l∧f x=true)):=by
 induction l with
 |nil=>intro acc x;simp[l8]
 |cons p l b=>
  intro acc x;rw[l8,b];by_cases h:acc.contains p=true
  ·rw[if_neg (by rw[h];simp)];(have hp:p∈acc:=by simpa using h);constructor
   ·rintro(g|⟨g1,g2⟩)
    ·exact .inl g
    ·exact .inr ⟨List.mem_cons_of_mem _ g1,g2⟩
   ·rintro(g|⟨g1,g2⟩)
    ·exact .inl g
    ·rcases List.mem_cons.1 g1 with e|e
     ·rw[e];exact .inl hp
     ·exact .inr ⟨e,g2⟩
  ·cases a:f p with
   |false=>
    rw[if_neg (by simp)];constructor
    ·rintro(g|⟨g1,g2⟩)
     ·exact .inl g
     ·exact .inr ⟨List.mem_cons_of_mem _ g1,g2⟩
    ·rintro(g|⟨g1,g2⟩)
     ·exact .inl g
     ·rcases List.mem_cons.1 g1 with e|e
      ·rw[e,a]at g2;exact absurd g2 (by decide)
      ·exact .inr ⟨e,g2⟩
   |true=>
    rw[if_pos (by simp at h;simp[h])];simp only[List.mem_append,List.mem_cons,List.not_mem_nil,or_false];constructor
    ·rintro((g|g)|⟨g1,g2⟩)
     ·exact .inl g
     ·exact .inr ⟨.inl g,by rw[g];exact a⟩
     ·exact .inr ⟨.inr g1,g2⟩
    ·rintro(g|⟨g1|g1,g2⟩)
     ·exact .inl (.inl g)
     ·exact .inl (.inr g1)
     ·exact .inr ⟨g1,g2⟩
theorem x9(f:Pt→Bool)(l:List Pt):∀acc,acc.Nodup→(l8 f acc l).Nodup:=by
 induction l with
 |nil=>intro acc h;exact h
 |cons p l c=>
  intro acc h;rw[l8];refine c _ ?_;split
  ·rename_i d;have:¬p∈acc:=by
    intro hm;simp[hm]at d
   rw[List.nodup_append];refine⟨h,by simp,?_⟩;intro a ha b hb;simp only[List.mem_singleton]at hb;rw[hb];exact fun e=>this (e▸ha)
  ·exact h
def Ee(s t:Sg):Int:=
 if aD [s.a,s.b,t.a,t.b]then
  (if s=t∨(s.a=t.b∧s.b=t.a)then 4
  else match l8 (fun p=>eD s p&&eD t p) [] [s.a,s.b,t.a,t.b]with
   | []=>if eG s t then 3 else 0
   | [c]=>if (c=s.a∨c=s.b)∧(c=t.a∨c=t.b)then 1 else 2
   |_=>5)
 else 0
theorem vk(s t:Sg):meets s t=Ee s t:=by
 unfold Ee;by_cases m:aD [s.a,s.b,t.a,t.b]=true
 ·rw[if_pos m];have D:=meets_same s t m;by_cases h:s=t∨(s.a=t.b∧s.b=t.a)
  ·rw[if_pos h];exact D.2 h
  ·rw[if_neg h];have E:meets s t≠4:=fun e=>h (D.1 e);have f:=iy s t m;have n:=Ec s t m;have hr:=vb s t;have hm:=Ed (fun p=>eD s p&&eD t p) [s.a,s.b,t.a,t.b] [];have v:=x9 (fun p=>eD s p&&eD t p) [s.a,s.b,t.a,t.b] [] (by simp);have H:=m;simp only[aD,Bool.and_true,Bool.and_eq_true]at m;obtain⟨I,J,K,L⟩:=m;have w:∀p,p=s.a∨p=s.b∨p=t.a∨p=t.b→aF p=true:=by
    rintro p (e|e|e|e)<;>rw[e]<;>assumption
   generalize meets s t=k at*;generalize l8 (fun p=>eD s p&&eD t p) [] [s.a,s.b,t.a,t.b]=C at*;simp only[List.not_mem_nil,false_or,List.mem_cons,or_false,Bool.and_eq_true]at hm;have x:∀p,DI s p→aF p=true→eD s p=true:=by
    intro p hp y;rw[←bS];have m1:aF (aO s).a=true∧aF (aO s).b=true:=by rcases cB s with e|e<;>rw[e]<;>exact⟨by assumption,by assumption⟩
    obtain⟨M,N⟩:=dW (aO s) (dE s) m1.1 m1.2;rcases(fH s p).2 hp with e|e<;>rw[e]<;>assumption
   have z:∀p,DI t p→aF p=true→eD t p=true:=by
    intro p hp y;rw[←bS];have m1:aF (aO t).a=true∧aF (aO t).b=true:=by rcases cB t with e|e<;>rw[e]<;>exact⟨by assumption,by assumption⟩
    obtain⟨M,N⟩:=dW (aO t) (dE t) m1.1 m1.2;rcases(fH t p).2 hp with e|e<;>rw[e]<;>assumption
   match C with
   | []=>
    have V:¬(k≠0∧k≠3):=by
     rw[←f.ends];unfold endsB;simp only[Bool.or_eq_true];rintro(((g|g)|g)|g)
     ·exact absurd ((hm s.a).2 ⟨.inl rfl,x _ (.inl rfl) I,g⟩) (by simp)
     ·exact absurd ((hm s.b).2 ⟨.inr (.inl rfl),x _ (.inr rfl) J,g⟩) (by simp)
     ·exact absurd ((hm t.a).2 ⟨.inr (.inr (.inl rfl)),g,z _ (.inl rfl) K⟩) (by simp)
     ·exact absurd ((hm t.b).2 ⟨.inr (.inr (.inr rfl)),g,z _ (.inr rfl) L⟩) (by simp)
    have ha:=f.apart;simp only;split
    ·rename_i g;exact ha.1 g
    ·rename_i g;have:=mt ha.2 g;omega
   | [c]=>
    obtain⟨F,i,j⟩:=(hm c).1 (by simp);have A:=w c F;have k0:k≠0:=f.one c A i j;have o:endsB s t=true:=by
     unfold endsB;rcases F with e|e|e|e<;>rw[e]at i j
     ·simp[j]
     ·simp[j]
     ·simp[i]
     ·simp[i]
    have k3:k≠3:=(f.ends.1 o).2;have W:k≠5:=by
     intro e;obtain⟨p,q,O,P,Q,R,S,T,U⟩:=n.five e;have hp:=(hm p).2 ⟨by rcases P with(g|g)|(g|g)<;>simp[g],R,S⟩;have G:=(hm q).2 ⟨by rcases Q with(g|g)|(g|g)<;>simp[g],T,U⟩;simp only[List.mem_singleton]at hp G;exact O (hp.trans G.symm)
    simp only;split
    ·rename_i g;have:k≠2:=fun e=>n.two e c g;omega
    ·rename_i g;have:k≠1:=by
      intro e;obtain⟨d,g1,g2⟩:=n.one e;have r:aF d=true:=w d (by rcases g1 with e|e<;>simp[e]);have v:=(hm d).2 ⟨by rcases g1 with e|e<;>simp[e],x d g1 r,z d g2 r⟩;simp only[List.mem_singleton]at v;rw[v]at g1 g2;exact g ⟨g1,g2⟩
     omega
   |c::d::l=>
    have B:c≠d:=by
     have:=v;simp only[List.nodup_cons,List.mem_cons]at this;exact fun e=>this.1 (.inl e)
    obtain⟨a0,a1,a2⟩:=(hm c).1 (by simp);obtain⟨b0,b1,b2⟩:=(hm d).1 (by simp);have:=f.two c d (w c a0) (w d b0) a1 a2 b1 b2 B;simp only;omega
 ·have u:aD [s.a,s.b,t.a,t.b]=false:=by simpa using m
  rw[u,if_neg (by decide)];exact BG s t u
