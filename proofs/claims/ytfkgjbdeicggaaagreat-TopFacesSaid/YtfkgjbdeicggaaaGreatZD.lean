/-
  The plain law of RingTriangles. No program in sight.
-/
import Derived.Test.YtfkgjbdeicggaaaGreatZC
namespace Go.Proofs.Pri
open Go.Proofs.Pg
theorem near3(a b c:Pt):aD [a,b,c]=true↔(aF a=true∧aF b=true∧aF c=true):=by simp[aD]
theorem near4'(a b c d:Pt):aD [a,b,c,d]=true↔(aF a=true∧aF b=true∧aF c=true∧aF d=true):=by simp[aD]
theorem Gm(a b c:Pt)(ha:aF a=true)(hb:aF b=true)(m:aF c=true):meets ⟨a,b⟩ ⟨b,c⟩=1↔(¬(a=b∧b=c)∧(eD ⟨b,c⟩ a=true→a=b)∧(eD ⟨a,b⟩ c=true→c=b)):=by
 have p:aD [a,b,b,c]=true:=by rw[near4'];exact⟨ha,hb,hb,m⟩
 have k:eD ⟨a,b⟩ a=true∧eD ⟨a,b⟩ b=true:=by
  rcases cB ⟨a,b⟩with e|e
  ·have h:=dE ⟨a,b⟩;rw[e]at h;exact dW ⟨a,b⟩ h ha hb
  ·have h:=dE ⟨a,b⟩;rw[e]at h;have:=dW ⟨b,a⟩ h hb ha;rw[←bS,e];have l:=bS ⟨a,b⟩ b;rw[e]at l;rw[←l];exact⟨this.2,this.1⟩
 have ob:eD ⟨b,c⟩ b=true∧eD ⟨b,c⟩ c=true:=by
  rcases cB ⟨b,c⟩with e|e
  ·have h:=dE ⟨b,c⟩;rw[e]at h;exact dW ⟨b,c⟩ h hb m
  ·have h:=dE ⟨b,c⟩;rw[e]at h;have:=dW ⟨c,b⟩ h m hb;rw[←bS,e];have l:=bS ⟨b,c⟩ c;rw[e]at l;rw[←l];exact⟨this.2,this.1⟩
 rw[vk];unfold Ee;rw[if_pos p];simp only;by_cases hs:(⟨a,b⟩:Sg)=⟨b,c⟩∨(a=c∧True)
 ·rw[if_pos hs];have n:¬(4:Int)=1:=by decide
  simp only[n,false_iff];rintro⟨g,i,q⟩;rcases hs with h|⟨h,_⟩
  ·simp only[Sg.mk.injEq]at h;exact g h
  ·subst h;exact g ⟨i ob.2,(i ob.2).symm⟩
 ·rw[if_neg hs];have j:a≠c:=fun h=>hs (.inr ⟨h,trivial⟩);have o:¬(a=b∧b=c):=fun h=>j (h.1.trans h.2);cases g:eD ⟨b,c⟩ a<;>cases i:eD ⟨a,b⟩ c
  ·(have d:a≠b:=by rintro rfl;rw[ob.1]at g;cases g);(have f:c≠b:=by rintro rfl;rw[k.2]at i;cases i);simp[l8,k,ob,g,i,o]
  ·(have d:a≠b:=by rintro rfl;rw[ob.1]at g;cases g);by_cases f:c=b
   ·subst f;simp[l8,k,ob,g,d]
   ·simp[l8,k,ob,g,i,f,Ne.symm f]
  ·(have f:c≠b:=by rintro rfl;rw[k.2]at i;cases i);by_cases d:a=b
   ·subst d;simp[l8,k,ob,i,j]
   ·simp[l8,k,ob,g,i,d,Ne.symm d]
  ·by_cases d:a=b
   ·subst d;simp[l8,k,ob,i,j,Ne.symm j]
   ·by_cases f:c=b
    ·subst f;simp[l8,k,ob,g,j,Ne.symm d]
    ·simp[l8,k,ob,g,i,d,f,Ne.symm d,Ne.symm f,Ne.symm j]
theorem Ef(a b p:Pt):eD ⟨a,b⟩ p=eD ⟨b,a⟩ p:=by
 have h:=mr ⟨a,b⟩;rw[←bS ⟨a,b⟩,←h,bS];rfl
theorem on_line(a b p:Pt)(h:eD ⟨a,b⟩ p=true):ae a b p=0:=by
 have c:aD [a,b,p]=true:=by unfold eD at h;simp only[Bool.and_eq_true]at h;exact h.1
 rw[gZ _ _ c]at h;unfold Eb at h;simp only[Bool.and_eq_true,beq_iff_eq]at h;exact h.2
theorem pQ(s:Sg)(p:Pt):Eb s p=true↔(((s.a.x≤p.x∨s.b.x≤p.x)∧(p.x≤s.a.x∨p.x≤s.b.x)∧(s.a.y≤p.y∨s.b.y≤p.y)∧(p.y≤s.a.y∨p.y≤s.b.y))∧ae s.a s.b p=0):=by
 unfold Eb;simp only[Bool.and_eq_true,decide_eq_true_eq,beq_iff_eq,and_assoc]
theorem Ij(k x y m n:Int)(c a p:Int)(f:k≠0)(h:m*c+n*a=k*p)(hs:m+n=k)(hw:(0≤m∧0≤n)∨(m≤0∧n≤0))(_:x=y):(c≤p∨a≤p)∧(p≤c∨p≤a):=by
 have g:m*(c-p)+n*(a-p)=0:=by grind
 constructor
 ·rcases Int.lt_or_le p c with b|b
  ·rcases Int.lt_or_le p a with e|e
   ·have g1:=kF (d:=c-p) O9 m;have g2:=kF (d:=a-p) O9 n;omega
   ·exact .inr e
  ·exact .inl b
 ·rcases Int.lt_or_le c p with b|b
  ·rcases Int.lt_or_le a p with e|e
   ·have g1:=BD (d:=c-p) O9 m;have g2:=BD (d:=a-p) O9 n;omega
   ·exact .inr e
  ·exact .inl b
theorem BK(a b c:Pt)(h:ae a b c=0)(d:a.y≠b.y)(f:(a.y≤c.y∧c.y≤b.y)∨(b.y≤c.y∧c.y≤a.y)):Eb ⟨a,b⟩ c=true:=by
 have e:(b.y-c.y)*a.x+(c.y-a.y)*b.x=(b.y-a.y)*c.x:=by unfold ae at h;grind
 have g:=Ij (b.y-a.y) 0 0 (b.y-c.y) (c.y-a.y) a.x b.x c.x O9 e O9 O9 rfl;rw[pQ];exact⟨⟨g.1,g.2,by simp only;omega,by simp only;omega⟩,h⟩
theorem vl(a b c:Pt)(h:a.y=b.y)(d:c.y=b.y)(e:(a.x≤c.x∧c.x≤b.x)∨(b.x≤c.x∧c.x≤a.x)):Eb ⟨a,b⟩ c=true:=by
 rw[pQ];exact⟨⟨by simp only;omega,by simp only;omega,by simp only;omega,by simp only;omega⟩,by simp only;unfold ae;rw[h,d];grind⟩
theorem iz(a b c:Pt):ae b a c= -ae a b c:=by unfold ae;grind
theorem on_end(a b:Pt)(ha:aF a=true)(hb:aF b=true):eD ⟨a,b⟩ a=true∧eD ⟨a,b⟩ b=true:=by
 rw[gZ _ _ ((near3 _ _ _).2 ⟨ha,hb,ha⟩),gZ _ _ ((near3 _ _ _).2 ⟨ha,hb,hb⟩),pQ,pQ];exact⟨⟨⟨by simp,by simp,by simp,by simp⟩,(bV a b).2⟩,⟨⟨by simp,by simp,by simp,by simp⟩,(bV a b).1⟩⟩
theorem pR(a b c d:Pt)(g:a≠b)(i:aF a=true)(j:aF b=true)(k:aF c=true)
  (h:ae a b c=0)(l:¬(ae c d a=0∧ae c d b=0))(m:(0≤ae c d a∧ae c d b≤0)∨(ae c d a≤0∧0≤ae c d b)):eD ⟨a,b⟩ c=true:=by
 rcases eP a b with e|e|e
 ·exact oq ⟨a,b⟩ c d (by simp only;omega) i j k h l m
 ·exact(g ((bH a b).1 e)).elim
 ·have n:aN b a<0:=by have:=fU a b;omega
  rw[Ef];exact oq ⟨b,a⟩ c d n j i k (by simp only;rw[iz];omega) (fun f=>l ⟨f.2,f.1⟩) (m.elim (fun f=>.inr ⟨f.2,f.1⟩) (fun f=>.inl ⟨f.2,f.1⟩))
theorem none_apart(a b c d:Pt)(j:a≠b)(k:c≠d)(f:aF a=true)(nb:aF b=true)(i:aF c=true)(nd:aF d=true)(h:meets ⟨a,b⟩ ⟨c,d⟩=0):apart a b c d∧(ae a b c=0→ae a b d=0→BE a b c d):=by
 have s:aD [a,b,c,d]=true:=by rw[near4'];exact⟨f,nb,i,nd⟩
 have hs:=iy ⟨a,b⟩ ⟨c,d⟩ s;rw[h]at hs;have he:endsB ⟨a,b⟩ ⟨c,d⟩=false:=by
  cases e:endsB ⟨a,b⟩ ⟨c,d⟩with
  |false=>rfl
  |true=>exact((hs.ends.1 e).1 rfl).elim
 have ha:eG ⟨a,b⟩ ⟨c,d⟩=false:=by
  cases e:eG ⟨a,b⟩ ⟨c,d⟩with
  |false=>rfl
  |true=>have:=hs.apart.1 e;omega
 unfold endsB at he;simp only[Bool.or_eq_false_iff]at he;obtain⟨⟨⟨l,m⟩,n⟩,o⟩:=he;have t:∀x y z:Pt,aF x=true→aF y=true→aF z=true→((0<ae x y z↔ah x y z=1)∧(ae x y z<0↔ah x y z= -1)∧(ae x y z=0↔ah x y z=0)):=by
  intro x y z hx hy w;have:=en x y z ((near3 _ _ _).2 ⟨hx,hy,w⟩);omega
 have s1:=t a b c f nb i;have s2:=t a b d f nb nd;have p:=t c d a i nd f;have q:=t c d b i nd nb;have hx:¬(((0<ae a b c∧ae a b d<0)∨(ae a b c<0∧0<ae a b d))∧((0<ae c d a∧ae c d b<0)∨(ae c d a<0∧0<ae c d b))):=by
  intro E;unfold eG at ha;simp only[Bool.and_eq_false_iff,decide_eq_false_iff_not]at ha;obtain⟨g1,g2⟩:=E;have F:ah a b c*ah a b d<0:=by
   rcases g1 with⟨x,y⟩|⟨x,y⟩
   ·rw[s1.1.1 x,s2.2.1.1 y];decide
   ·rw[s1.2.1.1 x,s2.1.1 y];decide
  have G:ah c d a*ah c d b<0:=by
   rcases g2 with⟨x,y⟩|⟨x,y⟩
   ·rw[p.1.1 x,q.2.1.1 y];decide
   ·rw[p.2.1.1 x,q.1.1 y];decide
  rcases ha with ha|ha
  ·exact ha F
  ·exact ha G
 have H:(ae a b c=0∧ae a b d=0)↔(ae c d a=0∧ae c d b=0):=⟨fun e=>eF a b c d j e.1 e.2,fun e=>eF c d a b k e.1 e.2⟩;have w1:ae a b c=0→¬(ae c d a=0∧ae c d b=0)→(0<ae c d a∧0<ae c d b)∨(ae c d a<0∧ae c d b<0):=by
  intro g1 g2;by_cases g3:(0≤ae c d a∧ae c d b≤0)∨(ae c d a≤0∧0≤ae c d b)
  ·rw[pR a b c d j f nb i g1 g2 g3]at n;cases n
  ·omega
 have K:ae a b d=0→¬(ae c d a=0∧ae c d b=0)→(0<ae c d a∧0<ae c d b)∨(ae c d a<0∧ae c d b<0):=by
  intro g1 g2;by_cases g3:(0≤ae c d a∧ae c d b≤0)∨(ae c d a≤0∧0≤ae c d b)
  ·have f1:=iz c d a;have f2:=iz c d b;rw[pR a b d c j f nb nd g1 O9 O9]at o;cases o
  ·omega
 have w3:ae c d a=0→¬(ae a b c=0∧ae a b d=0)→(0<ae a b c∧0<ae a b d)∨(ae a b c<0∧ae a b d<0):=by
  intro g1 g2;by_cases g3:(0≤ae a b c∧ae a b d≤0)∨(ae a b c≤0∧0≤ae a b d)
  ·rw[pR c d a b k i nd f g1 g2 g3]at l;cases l
  ·omega
 have L:ae c d b=0→¬(ae a b c=0∧ae a b d=0)→(0<ae a b c∧0<ae a b d)∨(ae a b c<0∧ae a b d<0):=by
  intro g1 g2;by_cases g3:(0≤ae a b c∧ae a b d≤0)∨(ae a b c≤0∧0≤ae a b d)
  ·have f1:=iz a b c;have f2:=iz a b d;rw[pR c d b a k i nd nb g1 O9 O9]at m;cases m
  ·omega
 rw[gZ _ _ ((near3 _ _ _).2 ⟨i,nd,f⟩)]at l;rw[gZ _ _ ((near3 _ _ _).2 ⟨i,nd,nb⟩)]at m;rw[gZ _ _ ((near3 _ _ _).2 ⟨f,nb,i⟩)]at n;rw[gZ _ _ ((near3 _ _ _).2 ⟨f,nb,nd⟩)]at o;refine⟨?_,fun u v=>?_⟩
 ·unfold apart;clear t s1 s2 p q hs h s l m n o ha;generalize ae a b c=A at*;generalize ae a b d=B at*;generalize ae c d a=C at*;generalize ae c d b=D at*;omega
 ·obtain⟨I,J⟩:=H.1 ⟨u,v⟩;unfold BE;by_cases y1:a.y=b.y
  ·exact .inl y1
  by_cases r:c.y=d.y
  ·exact .inr (.inl r)
  have M:¬((a.y≤c.y∧c.y≤b.y)∨(b.y≤c.y∧c.y≤a.y)):=fun g=>by rw[BK a b c u y1 g]at n;cases n
  have N:¬((a.y≤d.y∧d.y≤b.y)∨(b.y≤d.y∧d.y≤a.y)):=fun g=>by rw[BK a b d v y1 g]at o;cases o
  have O:¬((c.y≤a.y∧a.y≤d.y)∨(d.y≤a.y∧a.y≤c.y)):=fun g=>by rw[BK c d a I r g]at l;cases l
  have P:¬((c.y≤b.y∧b.y≤d.y)∨(d.y≤b.y∧b.y≤c.y)):=fun g=>by rw[BK c d b J r g]at m;cases m
  omega
theorem end_corner(a b c:Pt)(d:a≠b)(f:b≠c)(l:aF a=true)(nb:aF b=true)(m:aF c=true)(h:meets ⟨a,b⟩ ⟨b,c⟩=1):Corner a b c:=by
 obtain⟨_,p,q⟩:=(Gm a b c l nb m).1 h;have j:Eb ⟨b,c⟩ a=false:=by
  rw[←gZ _ _ ((near3 _ _ _).2 ⟨nb,m,l⟩)];cases e:eD ⟨b,c⟩ a with
  |false=>rfl
  |true=>exact(d (p e)).elim
 have k:Eb ⟨a,b⟩ c=false:=by
  rw[←gZ _ _ ((near3 _ _ _).2 ⟨l,nb,m⟩)];cases e:eD ⟨a,b⟩ c with
  |false=>rfl
  |true=>exact(f (q e).symm).elim
 have u:=pt_ne d;have v:=pt_ne f;refine⟨d,f,fun i=>?_⟩;have n:ae b c a=0:=by rw[ir];exact i
 by_cases y1:a.y=b.y
 ·have o:b.y=c.y:=by
   (have e:(b.x-a.x)*(c.y-a.y)=0:=by unfold ae at i;rw[y1]at i ⊢;grind);rcases Int.mul_eq_zero.1 e with g|g
   ·omega
   ·omega
  have r:¬((b.x≤a.x∧a.x≤c.x)∨(c.x≤a.x∧a.x≤b.x)):=fun g=>by rw[vl b c a o O9 g]at j;cases j
  have s:¬((a.x≤c.x∧c.x≤b.x)∨(b.x≤c.x∧c.x≤a.x)):=fun g=>by rw[vl a b c y1 O9 g]at k;cases k
  omega
 ·have o:b.y≠c.y:=by
   intro e;(have t:(b.y-a.y)*(b.x-c.x)=0:=by unfold ae at i;rw[←e]at i;grind);rcases Int.mul_eq_zero.1 t with g|g<;>omega
  have r:¬((b.y≤a.y∧a.y≤c.y)∨(c.y≤a.y∧a.y≤b.y)):=fun g=>by rw[BK b c a n o g]at j;cases j
  have s:¬((a.y≤c.y∧c.y≤b.y)∨(b.y≤c.y∧c.y≤a.y)):=fun g=>by rw[BK a b c i y1 g]at k;cases k
  omega
def cor(r:List Pt)(i:Nat):Pt:=at0 r (i%r.length)
theorem cor_side(r:List Pt)(i:Nat):sideAt r (i%r.length)=⟨cor r i,cor r (i+1)⟩:=by
 unfold sideAt cor;rw[Nat.mod_add_mod]
theorem An(r:List Pt)(i:Nat):cor r (i+r.length)=cor r i:=by unfold cor;rw[Nat.add_mod_right]
theorem cor_lt(r:List Pt)(i:Nat)(h:i<r.length):cor r i=at0 r i:=by unfold cor;rw[Nat.mod_eq_of_lt h]
theorem Simp.nr{r:List Pt}(h:Simp r)(i:Nat):aF (cor r i)=true:=by
 obtain⟨b,_,a⟩:=(regB_iff r).1 h.reg;exact rM r a _ (List.mem_of_getElem? (at0_some r _ (Nat.mod_lt _ O9)))
theorem Simp.meet{r:List Pt}(h:Simp r)(i k:Nat)(j:1≤k)(e:k+1≤r.length):meets ⟨cor r i,cor r (i+1)⟩ ⟨cor r (i+k),cor r (i+k+1)⟩=if k=1∨k+1=r.length then 1 else 0:=by
 obtain⟨l,_,_⟩:=(regB_iff r).1 h.reg;obtain⟨a,ha⟩:∃a,a=i%r.length:=⟨_,rfl⟩;obtain⟨b,hb⟩:∃b,b=(i+k)%r.length:=⟨_,rfl⟩;have la:a<r.length:=by rw[ha];exact Nat.mod_lt _ O9
 have lb:b<r.length:=by rw[hb];exact Nat.mod_lt _ O9
 have d:(a+k)%r.length=b:=by rw[ha,hb,Nat.mod_add_mod]
 have m:=(mod_eq_iff r.length (a+k) b O9 lb).1 d;have c:D' r.length a b↔(k=1∨k+1=r.length):=by
  unfold D';rw[mod_eq_iff _ (a+1) b O9 lb,mod_eq_iff _ (b+1) a O9 la];omega
 rw[←cor_side r i,←cor_side r (i+k),←ha,←hb];by_cases g:k=1∨k+1=r.length
 ·rw[if_pos g];exact h.near a b la lb O9 (c.2 g)
 ·rw[if_neg g];exact h.far a b la lb O9 (fun f=>g (c.1 f))
theorem Simp.ne{r:List Pt}(h:Simp r)(i:Nat):cor r (i+1)≠cor r (i+2):=by
 obtain⟨d,_,_⟩:=(regB_iff r).1 h.reg;intro e;have n0:=h.nr i;have a:=h.nr (i+1);have b:=h.nr (i+3);by_cases g:r.length=3
 ·have m:=h.meet i 2 O9 O9;rw[if_pos O9]at m;have c:cor r (i+2+1)=cor r i:=by rw[show i+2+1=i+r.length from by omega];exact An r i
  rw[←e,c]at m;have:=(meets_same ⟨cor r i,cor r (i+1)⟩ ⟨cor r (i+1),cor r i⟩ (by simp[aD,n0,a])).2 (.inr ⟨rfl,rfl⟩);omega
 ·have m:=h.meet i 2 O9 O9;rw[if_neg O9,←e]at m;have hs:=iy ⟨cor r i,cor r (i+1)⟩ ⟨cor r (i+1),cor r (i+2+1)⟩ (by simp[aD,n0,a,show aF (cor r (i+2+1))=true from b]);rw[m]at hs;exact hs.one (cor r (i+1)) a (on_end _ _ n0 a).2 (on_end _ _ a b).1 rfl
def mv(d p:Pt):Pt:=⟨p.x+d.x,p.y+d.y⟩
theorem tF(f g:Nat→Int)(i n:Nat):sm (fun k=>f k+g k) i n=sm f i n+sm g i n:=by
 induction n generalizing i with
 |zero=>rfl
 |succ n a=>rw[fy,fy,fy,a];omega
theorem Gn(f:Nat→Int)(c:Int)(i n:Nat):sm (fun k=>f k*c) i n=sm f i n*c:=by
 induction n generalizing i with
 |zero=>simp[sm]
 |succ n a=>rw[fy,fy,a,Int.add_mul]
theorem Gp(f:Nat→Nat→Int)(i n j m:Nat):sm (fun a=>sm (fun b=>f a b) j m) i n=sm (fun b=>sm (fun a=>f a b) i n) j m:=by
 induction n generalizing i with
 |zero=>simp only[sm];exact(mZ _ _ _ fun _ _ _=>rfl).symm
 |succ n c=>
  rw[fy,c];have:sm (fun b=>sm (fun a=>f a b) i (n+1)) j m=sm (fun b=>f i b+sm (fun a=>f a b) (i+1) n) j m:=rfl;rw[this,tF]
theorem rQ(f:Nat→Int)(i n:Nat)(h:∀k,i≤k→k<i+n→0≤f k):0≤sm f i n∧∀k,i≤k→k<i+n→f k≤sm f i n:=by
 induction n generalizing i with
 |zero=>exact⟨Int.le_refl _,fun k a b=>O9⟩
 |succ n c=>
  obtain⟨g1,g2⟩:=c (i+1) (fun k a b=>h k O9 O9);have d:=h i O9 O9;rw[fy];refine⟨O9,fun k a b=>?_⟩;by_cases e:k=i
  ·subst e;omega
  ·have:=g2 k O9 O9;omega
theorem Eg(B:Int)(N:Nat)(lo hi c e:Int)(f:lo≤hi)(h: -B≤lo)(i:hi+B≤N):sm (fun t=>if lo≤(t:Int)-B∧(t:Int)-B<hi then c+e*(2*((t:Int)-B-lo)+1)else 0) 0 N=c*(hi-lo)+e*((hi-lo)*(hi-lo)):=by
 have key:∀n:Nat,sm (fun t=>if lo≤(t:Int)-B∧(t:Int)-B<hi then c+e*(2*((t:Int)-B-lo)+1)else 0) 0 n=if (n:Int)-B≤lo then 0 else if (n:Int)-B≤hi then c*((n:Int)-B-lo)+e*(((n:Int)-B-lo)*((n:Int)-B-lo))else c*(hi-lo)+e*((hi-lo)*(hi-lo)):=by
  intro n;induction n with
  |zero=>rw[if_pos O9];rfl
  |succ n b=>
   rw[tB,b];(have d:((n+1:Nat):Int)=(n:Int)+1:=by push_cast;rfl);rw[d,Nat.zero_add];obtain⟨u,hu⟩:∃u,(n:Int)-B=u:=⟨_,rfl⟩;have a:(n:Int)+1-B=u+1:=O9;rw[hu,a];by_cases g1:u<lo
   ·rw[if_pos O9,if_neg O9,if_pos O9];rfl
   ·by_cases g2:u<hi
    ·have hA:(if lo≤u∧u<hi then c+e*(2*(u-lo)+1)else 0)=c+e*(2*(u-lo)+1):=if_pos ⟨O9,g2⟩;rw[hA,if_neg (by omega:¬u+1≤lo),if_pos (by omega:u+1≤hi)];by_cases g3:u≤lo
     ·(have:u=lo:=by omega);rw[if_pos g3,this];grind
     ·rw[if_neg g3,if_pos (by omega:u≤hi)];grind
    ·rw[if_neg (by omega:¬(lo≤u∧u<hi)),if_neg (by omega:¬u+1≤lo),if_neg (by omega:¬u+1≤hi)];by_cases g3:u≤lo
     ·(have:hi=lo:=by omega);rw[if_pos g3,this];simp
     ·rw[if_neg g3];by_cases g4:u≤hi
      ·(have:u=hi:=by omega);rw[if_pos g4,this];omega
      ·rw[if_neg g4];omega
 rw[key N];by_cases g:(N:Int)-B≤lo
 ·have:hi=lo:=by omega
  rw[if_pos g,this];simp
 ·rw[if_neg g];by_cases g2:(N:Int)-B≤hi
  ·(have:(N:Int)-B=hi:=by omega);rw[if_pos g2,this]
  ·rw[if_neg g2]
def Hv(P:Nat→Pt)(X:Nat→Int)(y:Int)(j:Nat):Int:=if (P j).y<y∧y<(P (j+1)).y then X j else if (P (j+1)).y<y∧y<(P j).y then-X j else 0
theorem BL(P:Nat→Pt)(D B:Int)(N:Nat)(j:Nat)(d:0<D)(hdiv:(P (j+1)).y-(P j).y≠0→((P (j+1)).y-(P j).y)∣D)(b1: -B≤(P j).y)(b2: -B≤(P (j+1)).y)(e:(P j).y+B≤N)(f:(P (j+1)).y+B≤N):sm (fun t=>Hv (fun i=>sc (D*2) (P i)) (Ju P D 2 ((t:Int)-B)) (D*(2*((t:Int)-B)+1)) j) 0 N=D*(((P j).x+(P (j+1)).x)*((P (j+1)).y-(P j).y)):=by
 have key:∀v h:Int,(D*2*v<D*(2*h+1)↔v≤h)∧(D*(2*h+1)<D*2*v↔h<v):=by
  intro v h;rw[Int.mul_assoc];have g1:=lt_mul d (2*v) (2*h+1);have g2:=lt_mul d (2*h+1) (2*v);omega
 unfold Hv Ju;simp only[sc,key];generalize (P j).x=ax at*;generalize (P (j+1)).x=bx at*;generalize (P j).y=ay at*;generalize (P (j+1)).y=a at*;rcases Int.lt_trichotomy ay a with g|g|g
 ·obtain⟨E,b⟩:=hdiv O9;have c:D/(a-ay)=E:=by rw[b];exact Int.mul_ediv_cancel_left _ O9
  have:=Eg B N ay a (D*2*ax) ((bx-ax)*E) O9 b1 f;rw[iu _ (fun t=>if ay≤(t:Int)-B∧(t:Int)-B<a then D*2*ax+(bx-ax)*E*(2*((t:Int)-B-ay)+1)else 0) 0 N (fun t _ _=>by
   rw[c];by_cases g1:ay≤(t:Int)-B∧(t:Int)-B<a
   ·rw[if_pos g1,if_pos g1]
   ·rw[if_neg g1,if_neg g1,if_neg O9]),this,b]
  grind
 ·subst g;rw[Int.sub_self,Int.mul_zero,Int.mul_zero];exact mZ _ _ _ fun t _ _=>by rw[if_neg O9,if_neg O9]
 ·obtain⟨E,b⟩:=hdiv O9;have c:D/(a-ay)=E:=by rw[b];exact Int.mul_ediv_cancel_left _ O9
  have:=Eg B N a ay (-(D*2*ax)+2*((bx-ax)*E)*(ay-a)) (-((bx-ax)*E)) O9 b2 e;rw[iu _ (fun t=>if a≤(t:Int)-B∧(t:Int)-B<ay then-(D*2*ax)+2*((bx-ax)*E)*(ay-a)+ -((bx-ax)*E)*(2*((t:Int)-B-a)+1)else 0) 0 N (fun t _ _=>by
   rw[c];by_cases g1:a≤(t:Int)-B∧(t:Int)-B<ay
   ·rw[if_neg O9,if_pos g1,if_pos g1];grind
   ·rw[if_neg g1,if_neg O9,if_neg g1]),this,b]
  grind
end Go.Proofs.Pri
namespace Go.Proofs.Pf
open Go.Proofs.Pg Go.Proofs.Pri
abbrev Dart:=Pt×Pt
def bk(s:Dart):Dart:=(s.2,s.1)
theorem kK(s:Dart):bk (bk s)=s:=rfl
def sl{α:Type}(f:α→Int):List α→Int
 | []=>0
 |a::l=>f a+sl f l
section sums
variable {α β:Type}
theorem aV(f:α→Int)(a:α)(l:List α):sl f (a::l)=f a+sl f l:=rfl
theorem fi(f:α→Int)(l m:List α):sl f (l++m)=sl f l+sl f m:=by
 induction l with
 |nil=>simp[sl]
 |cons a l b=>rw[List.cons_append,aV,aV,b];omega
theorem dq(f:β→Int)(g:α→β)(l:List α):sl f (l.map g)=sl (fun a=>f (g a)) l:=by
 induction l with
 |nil=>rfl
 |cons a l b=>rw[List.map_cons,aV,aV,b]
theorem aR{f g:α→Int}{l:List α}(h:∀a∈l,f a=g a):sl f l=sl g l:=by
 induction l with
 |nil=>rfl
 |cons a l c=>rw[aV,aV,h a (List.mem_cons_self ..),c (fun b hb=>h b (List.mem_cons_of_mem _ hb))]
theorem mA(f g:α→Int)(l:List α):sl (fun a=>f a+g a) l=sl f l+sl g l:=by
 induction l with
 |nil=>rfl
 |cons a l b=>rw[aV,aV,aV,b];omega
theorem jr(f g:α→Int)(l:List α):sl (fun a=>f a-g a) l=sl f l-sl g l:=by
 induction l with
 |nil=>rfl
 |cons a l b=>rw[aV,aV,aV,b];omega
theorem js(f:α→Int)(l:List α):sl (fun a=> -f a) l= -sl f l:=by
 induction l with
 |nil=>rfl
 |cons a l b=>rw[aV,aV,b];omega
theorem iA(c:Int)(f:α→Int)(l:List α):sl (fun a=>c*f a) l=c*sl f l:=by
 induction l with
 |nil=>simp[sl]
 |cons a l b=>rw[aV,aV,b,Int.mul_add]
theorem jc{f:α→Int}{l:List α}(h:∀a∈l,f a=0):sl f l=0:=by
 induction l with
 |nil=>rfl
 |cons a l c=>rw[aV,h a (List.mem_cons_self ..),c (fun b hb=>h b (List.mem_cons_of_mem _ hb))];rfl
theorem rR{f:α→Int}{l:List α}(h:∀a∈l,0≤f a):0≤sl f l∧∀a∈l,f a≤sl f l:=by
 induction l with
 |nil=>exact⟨Int.le_refl _,fun a ha=>by cases ha⟩
 |cons b l c=>
  obtain⟨e,d⟩:=c (fun a ha=>h a (List.mem_cons_of_mem _ ha));have g:=h b (List.mem_cons_self ..);rw[aV];refine⟨O9,fun a ha=>?_⟩;rcases List.mem_cons.1 ha with rfl|ha
  ·omega
  ·have:=d a ha;omega
theorem jd{f:α→Int}{l m:List α}(h:l.Perm m):sl f l=sl f m:=by
 induction h with
 |nil=>rfl
 |cons a _ e=>rw[aV,aV,e]
 |swap a b l=>simp only[aV];omega
 |trans _ _ c d=>rw[c,d]
theorem Aw(f:α→β→Int)(l:List α)(m:List β):sl (fun a=>sl (fun b=>f a b) m) l=sl (fun b=>sl (fun a=>f a b) l) m:=by
 induction l with
 |nil=>exact(jc fun _ _=>rfl).symm
 |cons a l c=>
  rw[aV,c,←mA];rfl
theorem Az(f:β→Int)(g:α→List β)(l:List α):sl f (l.flatMap g)=sl (fun a=>sl f (g a)) l:=by
 induction l with
 |nil=>rfl
 |cons a l b=>rw[List.flatMap_cons,fi,aV,b]
end sums
def da(L:List Dart):Prop:=∀u:Pt→Int,sl (fun s=>u s.2-u s.1) L=0
def wd(L:List Dart)(p:Pt):Int:=sl (fun s=>chi s.1 s.2 p) L
def zz(L:List Dart)(s:Dart):Int:=sl (fun t=>(if t=s then 1 else 0)-(if t=bk s then 1 else 0)) L
theorem I2(L:List Dart)(s:Dart):zz L (bk s)= -zz L s:=by
 unfold zz;rw[←js,kK];exact aR fun t _=>by(repeat' split)<;>omega
theorem Ik(L M:List Dart)(p:Pt):wd (L++M) p=wd L p+wd M p:=fi _ _ _
theorem Il(L M:List Dart)(s:Dart):zz (L++M) s=zz L s+zz M s:=fi _ _ _
theorem da.app{L M:List Dart}(h:da L)(a:da M):da (L++M):=fun u=>by rw[fi,h u,a u];rfl
theorem da.nil:da []:=fun _=>rfl
theorem da.back{L:List Dart}(h:da L):da (L.map bk):=fun u=>by
 rw[dq];have:=h u;rw[show(fun a:Dart=>u (bk a).2-u (bk a).1)=fun a=> -(u a.2-u a.1)from by funext a;unfold bk;simp only;omega,js,this];rfl
theorem Gq(L:List Dart)(p:Pt):wd (L.map bk) p= -wd L p:=by
 unfold wd;rw[dq,←js];exact aR fun s _=>fT _ _ _
theorem Gt(L:List Dart)(s:Dart):zz (L.map bk) s= -zz L s:=by
 unfold zz;rw[dq,←js];refine aR fun t _=>?_;have a:bk t=s↔t=bk s:=⟨fun e=>by rw[←e];rfl,fun e=>by rw[e];rfl⟩;have b:bk t=bk s↔t=s:=⟨fun e=>by rw[←kK t,e];rfl,fun e=>by rw[e]⟩;simp only[a,b];omega
theorem AA{L:List Dart}(h:da L)(p q:Pt)(ha:∀s∈L,apart p q s.1 s.2):wd L p=wd L q:=by
 have a:sl (fun s=>chi s.1 s.2 p-chi s.1 s.2 q) L=sl (fun s=>hs p q s.2-hs p q s.1) L:=aR fun s hs=>qf _ _ _ _ (ha s hs);rw[h (hs p q),jr]at a;unfold wd;omega
def jv(c:Int)(s:Dart):Dart:=(sc c s.1,sc c s.2)
def fI(c:Int)(L:List Dart):List Dart:=L.map (jv c)
theorem jQ{c:Int}(d:0<c){a b:Pt}(h:sc c a=sc c b):a=b:=by
 cases a;cases b;simp only[sc,Pt.mk.injEq]at h ⊢;exact⟨(lt_mul d _ _).2.2.1 h.1,(lt_mul d _ _).2.2.1 h.2⟩
theorem AB{c:Int}(d:0<c){a b:Dart}(h:jv c a=jv c b):a=b:=by
 cases a;cases b;simp only[jv,Prod.mk.injEq]at h ⊢;exact⟨jQ d h.1,jQ d h.2⟩
theorem Eh{c:Int}(a:0<c)(L:List Dart)(p:Pt):wd (fI c L) (sc c p)=wd L p:=by
 unfold wd fI;rw[dq];exact aR fun s _=>If a _ _ _
theorem Ei{c:Int}(a:0<c)(L:List Dart)(s:Dart):zz (fI c L) (jv c s)=zz L s:=by
 unfold zz fI;rw[dq];refine aR fun t _=>?_;have b:jv c t=jv c s↔t=s:=⟨fun e=>AB a e,fun e=>by rw[e]⟩;have d:jv c t=bk (jv c s)↔t=bk s:=⟨fun e=>AB a e,fun e=>by rw[e];rfl⟩;simp only[b,d]
theorem da.sc{L:List Dart}(h:da L)(c:Int):da (fI c L):=fun u=>by
 unfold fI;rw[dq];exact h fun p=>u (Pri.sc c p)
theorem AD(a b:Int)(p:Pt):sc a (sc b p)=sc b (sc a p):=by simp only[sc,Pt.mk.injEq];constructor<;>grind
theorem Gu(a b:Int)(s:Dart):jv a (jv b s)=jv b (jv a s):=by unfold jv;rw[AD a b,AD a b]
theorem Gv(a b:Int)(L:List Dart):fI a (fI b L)=fI b (fI a L):=by
 unfold fI;rw[List.map_map,List.map_map];exact List.map_congr_left fun s _=>Gu a b s
theorem ya{a b q:Pt}{m k:Int}(h:iw a b q m k)(c:Int):iw (Pri.sc c a) (Pri.sc c b) (Pri.sc c q) m k:=by
 obtain⟨d,e,f,g⟩:=h;refine⟨d,e,?_,?_⟩<;>simp only[Pri.sc]<;>grind
structure Gr(D:List Dart):Prop where
 ne:∀s∈D,s.1≠s.2
 back:∀s∈D,bk s∈D
 cor:∀s∈D,∀t∈D,s.2=t.1→t.2≠s.1→Corner s.1 s.2 t.2
 far:∀s∈D,∀t∈D,s.1≠t.1→s.1≠t.2→s.2≠t.1→s.2≠t.2→apart s.1 s.2 t.1 t.2∧(ae s.1 s.2 t.1=0→ae s.1 s.2 t.2=0→BE s.1 s.2 t.1 t.2)
theorem rS{a b d:Pt}(h:Corner a b d){c:Int}(f:0<c):Corner (Pri.sc c a) (Pri.sc c b) (Pri.sc c d):=by
 refine⟨fun e=>h.ab (jQ f e),fun e=>h.bc (jQ f e),fun e=>?_⟩;have hs:=h.str ((ng f _ _ _).2.2.1 e);simp only[Pri.sc,fun x y=>(lt_mul f x y).1,fun x y=>(lt_mul f x y).2.2];exact hs
theorem vm{a b u v:Pt}(h:apart a b u v){c:Int}(d:0<c):apart (sc c a) (sc c b) (sc c u) (sc c v):=by
 have s1:=ng d a b u;have s2:=ng d a b v;have e:=ng d u v a;have f:=ng d u v b;unfold apart at*;omega
theorem Gr.sc{D:List Dart}(h:Gr D){c:Int}(a:0<c):Gr (fI c D):=by
 have hm:∀s∈fI c D,∃t∈D,jv c t=s:=fun s hs=>List.mem_map.1 hs;refine⟨fun s hs e=>?_,fun s hs=>?_,fun s hs t d f g=>?_,fun s hs t d f g j k=>?_⟩
 ·obtain⟨s,b,rfl⟩:=hm s hs;exact h.ne s b (jQ a e)
 ·obtain⟨s,b,rfl⟩:=hm s hs;exact List.mem_map.2 ⟨bk s,h.back s b,rfl⟩
 ·obtain⟨s,b,rfl⟩:=hm s hs;obtain⟨t,i,rfl⟩:=hm t d;exact rS (h.cor s b t i (jQ a f) (fun e=>g (by simp only[jv];rw[e]))) a
 ·obtain⟨s,b,rfl⟩:=hm s hs;obtain⟨t,i,rfl⟩:=hm t d;obtain⟨g1,g2⟩:=h.far s b t i (fun e=>f (by simp only[jv];rw[e])) (fun e=>g (by simp only[jv];rw[e])) (fun e=>j (by simp only[jv];rw[e])) (fun e=>k (by simp only[jv];rw[e]));refine⟨vm g1 a,fun l z2=>?_⟩;have hs:=g2 ((ng a _ _ _).2.2.1 l) ((ng a _ _ _).2.2.1 z2);unfold BE at*;simp only[jv,Pri.sc,fun x y=>(lt_mul a x y).1,fun x y=>(lt_mul a x y).2.2];exact hs
theorem Gr.corB{D:List Dart}(h:Gr D){u v x:Pt}(b:(u,v)∈D)(c:(v,x)∈D)(a:x≠u):Corner u v x:=h.cor _ b _ c rfl a
def wap(a b u v:Pt):Prop:=(0<ae a b u∧0<ae a b v)∨(ae a b u<0∧ae a b v<0)∨(0≤ae u v a∧0≤ae u v b∧(0<ae u v a∨0<ae u v b))∨(ae u v a≤0∧ae u v b≤0∧(ae u v a<0∨ae u v b<0))∨(ae a b u=0∧ae a b v=0∧ae u v a=0∧ae u v b=0)
theorem tG{a b u v:Pt}(h:apart a b u v):wap a b u v:=by
 unfold apart at h;unfold wap;omega
theorem gD(a b c:Pt):ae b a c= -ae a b c:=by unfold ae;grind
theorem vn{a b u v:Pt}(h:wap a b u v):wap b a u v:=by
 have c:=gD a b u;have d:=gD a b v;unfold wap at*;omega
theorem rT{a b u v:Pt}(h:wap a b u v):wap a b v u:=by
 have c:=gD u v a;have d:=gD u v b;unfold wap at*;omega
theorem ns(a b x:Pt):wap a b b x:=by
 have c:=(bV a b).1;have d:=(bV b x).2;have e:=ir a b x;unfold wap;omega
theorem Gr.wap{D:List Dart}(h:Gr D){s t:Dart}(hs:s∈D)(e:t∈D):Pf.wap s.1 s.2 t.1 t.2:=by
 by_cases a:s.1=t.1
 ·rw[←a];exact vn (ns _ _ _)
 by_cases b:s.1=t.2
 ·rw[←b];exact rT (vn (ns _ _ _))
 by_cases c:s.2=t.1
 ·rw[←c];exact ns _ _ _
 by_cases d:s.2=t.2
 ·rw[←d];exact rT (ns _ _ _)
 exact tG (h.far s hs t e a b c d).1
theorem AE{a b q q':Pt}{m k m' k':Int}(h:iw a b q m k)(c:iw a b q' m' k')(u:Pt):((m+k)*(m'+k'))*ae q q' u=(k'*(m+k)-k*(m'+k'))*ae a b u:=by
 have c1:=h.crs1 u;have c2:=c.crs1 u;have d:=h.ex;have e:=h.ey;have f:=c.ex;have g:=c.ey;unfold ae at*;grind
theorem Im{a b q q':Pt}{m k m' k':Int}(h:iw a b q m k)(c:iw a b q' m' k')(e:k'*(m+k)-k*(m'+k')=0):q=q':=by
 obtain⟨d,f,g,i⟩:=h;obtain⟨g1,g2,g3,g4⟩:=c;have hp:0<(m+k)*(m'+k'):=Int.mul_pos O9 O9;have k1:((m+k)*(m'+k'))*q.x=((m+k)*(m'+k'))*q'.x:=by
  have:k'*(m+k)=k*(m'+k'):=O9;have t1:(m+k)*q.x=(m+k)*a.x+k*(b.x-a.x):=by grind
  have t2:(m'+k')*q'.x=(m'+k')*a.x+k'*(b.x-a.x):=by grind
  grind
 have k2:((m+k)*(m'+k'))*q.y=((m+k)*(m'+k'))*q'.y:=by
  have:k'*(m+k)=k*(m'+k'):=O9;have t1:(m+k)*q.y=(m+k)*a.y+k*(b.y-a.y):=by grind
  have t2:(m'+k')*q'.y=(m'+k')*a.y+k'*(b.y-a.y):=by grind
  grind
 cases q;cases q';simp only[Pt.mk.injEq]at*;exact⟨(lt_mul hp _ _).2.2.1 k1,(lt_mul hp _ _).2.2.1 k2⟩
theorem AF{P e x y:Int}(hp:0<P)(h:P*x=e*y):(0<e→(0<x↔0<y)∧(x<0↔y<0)∧(x=0↔y=0))∧(e<0→(0<x↔y<0)∧(x<0↔0<y)∧(x=0↔y=0)):=by
 have b:=kF hp x;rw[Int.mul_comm,h]at b;constructor
 ·intro he;have a:=kF he y;rw[Int.mul_comm y]at a;omega
 ·intro he;have a:=BD he y;rw[Int.mul_comm y]at a;omega
theorem AG{x y z m k:Int}(hm:0<m)(f:0<k)(h:(m+k)*z=m*x+k*y):(0≤x→0≤y→(0<x∨0<y)→0<z)∧(x≤0→y≤0→(x<0∨y<0)→z<0)∧(x=0→y=0→z=0):=by
 obtain⟨s1,s2,d,e⟩:=lF hm f h;refine⟨fun b c g=>?_,fun b c g=>?_,fun b c=>(d b).2.2.2 c⟩
 ·rcases Int.lt_or_eq_of_le b with a|a
  ·rcases Int.lt_or_eq_of_le c with z2|z2
   ·exact s1 a z2
   ·exact(e z2.symm).1.2 a
  ·exact(d a.symm).1.2 O9
 ·rcases Int.lt_or_eq_of_le b with a|a
  ·rcases Int.lt_or_eq_of_le c with z2|z2
   ·exact s2 a z2
   ·exact(e z2).2.1.2 a
  ·exact(d a).2.1.2 O9
theorem BM{a b q q' u v:Pt}{m k m' k':Int}(h:iw a b q m k)(c:iw a b q' m' k')(hw:wap a b u v):q=q'∨apart q q' u v:=by
 by_cases e:k'*(m+k)-k*(m'+k')=0
 ·exact .inl (Im h c e)
 right;have hp:0<(m+k)*(m'+k'):=Int.mul_pos (by have:=h.pm;have:=h.pk;omega) (by have:=c.pm;have:=c.pk;omega);have d:=AF hp (AE h c u);have sv:=AF hp (AE h c v);have f:=AG h.pm h.pk (h.crs u v);have sb:=AG c.pm c.pk (c.crs u v);generalize k'*(m+k)-k*(m'+k')=j at*;unfold apart;unfold wap at hw;have i:j<0∨0<j:=O9;rcases hw with hw|hw|hw|hw|hw
 ·rcases i with g|g
  ·exact .inr (.inl ⟨(d.2 g).2.1.2 hw.1,(sv.2 g).2.1.2 hw.2⟩)
  ·exact .inl ⟨(d.1 g).1.2 hw.1,(sv.1 g).1.2 hw.2⟩
 ·rcases i with g|g
  ·exact .inl ⟨(d.2 g).1.2 hw.1,(sv.2 g).1.2 hw.2⟩
  ·exact .inr (.inl ⟨(d.1 g).2.1.2 hw.1,(sv.1 g).2.1.2 hw.2⟩)
 ·exact .inr (.inr (.inl ⟨f.1 hw.1 hw.2.1 hw.2.2,sb.1 hw.1 hw.2.1 hw.2.2⟩))
 ·exact .inr (.inr (.inr (.inl ⟨f.2.1 hw.1 hw.2.1 hw.2.2,sb.2.1 hw.1 hw.2.1 hw.2.2⟩)))
 ·rcases i with g|g
  ·exact .inr (.inr (.inr (.inr ⟨(d.2 g).2.2.2 hw.1,(sv.2 g).2.2.2 hw.2.1,f.2.2 hw.2.2.1 hw.2.2.2,sb.2.2 hw.2.2.1 hw.2.2.2⟩)))
  ·exact .inr (.inr (.inr (.inr ⟨(d.1 g).2.2.2 hw.1,(sv.1 g).2.2.2 hw.2.1,f.2.2 hw.2.2.1 hw.2.2.2,sb.2.2 hw.2.2.1 hw.2.2.2⟩)))
theorem Io{D L:List Dart}(a:Gr D)(b:∀t∈L,t∈D)(c:da L){s:Dart}(hs:s∈D){q q':Pt}{m k m' k':Int}(h:iw s.1 s.2 q m k)(d:iw s.1 s.2 q' m' k'):wd L q=wd L q':=by
 by_cases e:q=q'
 ·rw[e]
 ·exact AA c q q' fun t f=>(BM h d (a.wap hs (b t f))).resolve_left e
theorem Ip{a b:Pt}(h:a≠b):kk a b+kk b a=1:=by
 have:=pt_ne h;unfold kk
 (repeat' split)<;>omega
def tH(s:Dart):Pt:=⟨s.1.x+s.2.x,s.1.y+s.2.y⟩
theorem lG(s:Dart):iw (sc 2 s.1) (sc 2 s.2) (tH s) 1 1:=by
 refine⟨O9,O9,?_,?_⟩<;>simp only[sc,tH]<;>omega
theorem Iq(s:Dart):tH (bk s)=tH s:=by unfold tH bk;simp only[Pt.mk.injEq];omega
def F(L:List Dart)(s:Dart):Int:=wd (fI 2 L) (tH s)+kk s.1 s.2*zz L s
theorem lH{c:Int}{L D:List Dart}(h:∀t∈L,t∈D):∀t∈fI c L,t∈fI c D:=fun t a=>by
 obtain⟨u,hu,rfl⟩:=List.mem_map.1 a;exact List.mem_map.2 ⟨u,h u hu,rfl⟩
theorem Ir{D L:List Dart}(a:Gr D)(b:∀t∈L,t∈D)(d:da L){s:Dart}(hs:s∈D){c:Int}(hp:0<c){q:Pt}{m k:Int}(h:iw (sc c s.1) (sc c s.2) q m k):wd (fI c L) q+kk s.1 s.2*zz L s=F L s:=by
 unfold F;rw[←Eh (c:=2) O9 (fI c L) q,←Eh hp (fI 2 L) (tH s),Gv 2 c];have hm:jv c (jv 2 s)∈fI c (fI 2 D):=List.mem_map.2 ⟨_,List.mem_map.2 ⟨s,hs,rfl⟩,rfl⟩;rw[Io ((a.sc (c:=2) O9).sc hp) (lH (lH b)) ((d.sc 2).sc c) hm (q:=sc 2 q) (q':=sc c (tH s)) (m:=m) (k:=k) (m':=1) (k':=1)]
 ·have:=ya h 2;rw[AD 2 c,AD 2 c]at this;exact this
 ·exact ya (lG s) c
theorem tI{L:List Dart}{s:Dart}(hs:s.1≠s.2):F L s-F L (bk s)=zz L s:=by
 unfold F;rw[Iq,I2];have:=Ip hs;have e:kk (bk s).1 (bk s).2=1-kk s.1 s.2:=by unfold bk;simp only;omega
 rw[e];grind
theorem Hw(L M:List Dart)(s:Dart):F (L++M) s=F L s+F M s:=by
 unfold F fI;rw[List.map_append,Ik,Il];grind
theorem qj(L:List Dart)(s:Dart):F (L.map bk) s= -F L s:=by
 unfold F;rw[Gt,show fI 2 (L.map bk)=(fI 2 L).map bk from by unfold fI;rw[List.map_map,List.map_map];rfl,Gq];grind
