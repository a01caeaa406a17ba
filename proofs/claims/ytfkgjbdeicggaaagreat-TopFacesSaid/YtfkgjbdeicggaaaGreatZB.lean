/-
  The plain laws of layer 4 (ring).
-/
import Derived.Test.YtfkgjbdeicggaaaGreatZA
namespace Go.Proofs.Pri
open Go.Proofs.Pg
structure iw(a b q:Pt)(m k:Int):Prop where
 pm:0<m
 pk:0<k
 ex:(m+k)*q.x=m*a.x+k*b.x
 ey:(m+k)*q.y=m*a.y+k*b.y
theorem iw.crs{a b q:Pt}{m k:Int}(h:iw a b q m k)(u v:Pt):(m+k)*ae u v q=m*ae u v a+k*ae u v b:=by
 have c:=h.ex;have d:=h.ey;unfold ae;grind
theorem iw.crs1{a b q:Pt}{m k:Int}(h:iw a b q m k)(u:Pt):(m+k)*ae a q u=k*ae a b u:=by
 have c:=h.ex;have d:=h.ey;unfold ae;grind
theorem iw.yy{a b q:Pt}{m k:Int}(h:iw a b q m k):(m+k)*(q.y-a.y)=k*(b.y-a.y):=by
 have c:=h.ey;grind
theorem mY{x y m k:Int}(hm:0<m)(a:0<k)(h:m*x=k*y):(0<x↔0<y)∧(x<0↔y<0)∧(x=0↔y=0):=by
 have g1:=kF hm x;have g2:=kF a y;rw[Int.mul_comm]at h;rw[Int.mul_comm k]at h;omega
theorem lF{x y z m k:Int}(hm:0<m)(a:0<k)(h:(m+k)*z=m*x+k*y):(0<x→0<y→0<z)∧(x<0→y<0→z<0)∧(x=0→(0<z↔0<y)∧(z<0↔y<0)∧(z=0↔y=0))∧(y=0→(0<z↔0<x)∧(z<0↔x<0)∧(z=0↔x=0)):=by
 have g1:=kF hm x;have g2:=kF a y;have g3:=kF (d:=m+k) O9 z;rw[Int.mul_comm]at h;rw[Int.mul_comm m,Int.mul_comm k]at h;omega
theorem bV(a b:Pt):ae a b b=0∧ae a b a=0:=by unfold ae;constructor<;>grind
theorem iw.ray{a b q:Pt}{m k:Int}(h:iw a b q m k):Jt a b q:=by
 have hy:=mY (by have:=h.pm;have:=h.pk;omega) h.pk h.yy;refine⟨O9,O9,fun u=>?_⟩;have c:=h.crs u a;rw[(bV u a).1,Int.mul_zero,Int.zero_add]at c;have:=mY (by have:=h.pm;have:=h.pk;omega) h.pk c;exact⟨this.1,this.2.1⟩
theorem iw.apart{a b q u v:Pt}{m k:Int}(h:iw a b q m k)(hp:apart a b u v):Pri.apart a q u v:=by
 have e:0<m+k:=by have:=h.pm;have:=h.pk;omega
 have s1:=mY e h.pk (h.crs1 u);have s2:=mY e h.pk (h.crs1 v);have f:=lF h.pm h.pk (h.crs u v);unfold Pri.apart at*;rcases hp with⟨c,d⟩|⟨c,d⟩|⟨c,d⟩|⟨c,d⟩|⟨c,d,g,i⟩
 ·exact .inl ⟨s1.1.2 c,s2.1.2 d⟩
 ·exact .inr (.inl ⟨s1.2.1.2 c,s2.2.1.2 d⟩)
 ·exact .inr (.inr (.inl ⟨c,f.1 c d⟩))
 ·exact .inr (.inr (.inr (.inl ⟨c,f.2.1 c d⟩)))
 ·exact .inr (.inr (.inr (.inr ⟨s1.2.2.2 c,s2.2.2.2 d,g,((f.2.2.1 g).2.2).2 i⟩)))
theorem iw.apart_next{a b c q:Pt}{m k:Int}(h:iw a b q m k):Pri.apart a q b c:=by
 have d:0<m+k:=by have:=h.pm;have:=h.pk;omega
 have s1:=mY d h.pk (h.crs1 b);have s2:=mY d h.pk (h.crs1 c);have f:=lF h.pm h.pk (h.crs b c);have i:ae a b b=0:=(bV a b).1;have j:ae b c b=0:=(bV b c).2;have l:ae b c a=ae a b c:=ir a b c;have e:=f.2.2.2 j;unfold Pri.apart;rcases Int.lt_trichotomy (ae b c a) 0 with g|g|g
 ·exact .inr (.inr (.inr (.inl ⟨g,e.2.1.2 g⟩)))
 ·exact .inr (.inr (.inr (.inr ⟨s1.2.2.2 i,s2.2.2.2 O9,g,e.2.2.2 g⟩)))
 ·exact .inr (.inr (.inl ⟨g,e.1.2 g⟩))
def ry(P:Nat→Pt)(y:Int)(i:Nat):Prop:=((P i).y<y∧y<(P (i+1)).y)∨((P (i+1)).y<y∧y<(P i).y)
instance (P:Nat→Pt)(y:Int)(i:Nat):Decidable (ry P y i):=by unfold ry;infer_instance
structure Level(P:Nat→Pt)(n:Nat)(y:Int)(X:Nat→Int):Prop where
 off:∀i,(P i).y≠y
 per:∀i,X (i+n)=X i
 mid:∀i,ry P y i→∃m k,iw (P i) (P (i+1)) ⟨X i,y⟩ m k
theorem uT{P:Nat→Pt}{n:Nat}{y:Int}{X:Nat→Int}(h:Level P n y X)(i:Nat)(x:Int):chi (P i) (P (i+1)) ⟨x,y⟩=if ry P y i∧x<X i then (if (P i).y<y then 1 else-1)else 0:=by
 have q:=h.off i;have r:=h.off (i+1);by_cases a:ry P y i
 ·obtain⟨m,k,b⟩:=h.mid i a;have e:ae (P i) (P (i+1)) ⟨X i,y⟩=0:=by
   have c:=b.crs (P i) (P (i+1));rw[(bV (P i) (P (i+1))).1,(bV (P i) (P (i+1))).2,Int.mul_zero,Int.mul_zero,Int.add_zero]at c;(have f:0<m+k:=by have:=b.pm;have:=b.pk;omega);rcases Int.mul_eq_zero.1 c with g|g
   ·omega
   ·exact g
  have j:ae (P i) (P (i+1)) ⟨x,y⟩=(X i-x)*((P (i+1)).y-(P i).y):=by
   unfold ae at e ⊢;simp only at e ⊢;grind
  unfold chi;rw[j];unfold ry at a ⊢;rcases a with⟨l,o⟩|⟨l,o⟩
  ·have g:=kF (d:=(P (i+1)).y-(P i).y) O9 (X i-x);generalize (X i-x)*((P (i+1)).y-(P i).y)=Z at*;simp only
   (repeat' split)<;>omega
  ·have g:=BD (d:=(P (i+1)).y-(P i).y) O9 (X i-x);generalize (X i-x)*((P (i+1)).y-(P i).y)=Z at*;simp only
   (repeat' split)<;>omega
 ·rw[if_neg (fun p=>a p.1)];unfold ry at a;unfold chi;simp only
  (repeat' split)<;>omega
theorem iw.on_line{a b q:Pt}{m k:Int}(h:iw a b q m k):ae a b q=0:=by
 have c:=h.crs a b;rw[(bV a b).1,(bV a b).2,Int.mul_zero,Int.mul_zero,Int.add_zero]at c;have d:0<m+k:=by have:=h.pm;have:=h.pk;omega
 rcases Int.mul_eq_zero.1 c with g|g
 ·omega
 ·exact g
theorem iw.two{a b c d q:Pt}{m k m' k':Int}(h:iw a b q m k)(g:iw c d q m' k')(hp:Pri.apart a b c d):ae a b c=0∧ae a b d=0:=by
 have i:=h.on_line;have j:=g.on_line;have s1:=lF g.pm g.pk (g.crs a b);have s2:=lF h.pm h.pk (h.crs c d);unfold Pri.apart at hp;rcases hp with⟨e,f⟩|⟨e,f⟩|⟨e,f⟩|⟨e,f⟩|⟨e,f,_,_⟩
 ·have:=s1.1 e f;omega
 ·have:=s1.2.1 e f;omega
 ·have:=s2.1 e f;omega
 ·have:=s2.2.1 e f;omega
 ·exact⟨e,f⟩
def JJ(P:Nat→Pt)(n:Nat)(p:Pt):Int:=sm (fun j=>chi (P j) (P (j+1)) p) 0 n
theorem mZ(f:Nat→Int)(i n:Nat)(h:∀k,i≤k→k<i+n→f k=0):sm f i n=0:=by
 induction n generalizing i with
 |zero=>rfl
 |succ n a=>rw[fy,h i O9 O9,a (i+1) (fun k b c=>h k O9 O9)];rfl
def sc(c:Int)(v:Pt):Pt:=⟨c*v.x,c*v.y⟩
theorem qg(c:Int)(a b d:Pt):ae (sc c a) (sc c b) (sc c d)=c*c*ae a b d:=by unfold ae sc;simp only;grind
theorem tC{c:Int}(a:0<c)(x:Int):(0<c*x↔0<x)∧(c*x<0↔x<0)∧(c*x=0↔x=0):=by
 have:=kF a x;rw[Int.mul_comm]at this;omega
theorem lt_mul{c:Int}(a:0<c)(x y:Int):(c*x<c*y↔x<y)∧(c*x≤c*y↔x≤y)∧(c*x=c*y↔x=y):=by
 have h:=tC a (x-y);rw[Int.mul_sub]at h;omega
theorem ng{c:Int}(e:0<c)(a b d:Pt):(0<ae (sc c a) (sc c b) (sc c d)↔0<ae a b d)∧(ae (sc c a) (sc c b) (sc c d)<0↔ae a b d<0)∧(ae (sc c a) (sc c b) (sc c d)=0↔ae a b d=0):=by
 rw[qg];exact tC (Int.mul_pos e e) _
theorem If{c:Int}(d:0<c)(a b p:Pt):chi (sc c a) (sc c b) (sc c p)=chi a b p:=by
 have h:=ng d a b p;have e:=lt_mul d a.y p.y;have f:=lt_mul d p.y b.y;have g:=lt_mul d b.y p.y;have i:=lt_mul d p.y a.y;unfold chi;simp only[sc]at*
 (repeat' split)<;>omega
theorem Ag{c:Int}(d:0<c)(a b:Pt):kk (sc c a) (sc c b)=kk a b:=by
 have e:=lt_mul d a.y b.y;have f:=lt_mul d b.x a.x;unfold kk sc;simp only
 (repeat' split)<;>omega
theorem D7{c:Int}(e:0<c)(a b d:Pt):jj (sc c a) (sc c b) (sc c d)=jj a b d:=by
 have h:=ng e a b d;have f:=lt_mul e d.y b.y;have g:=lt_mul e a.y b.y;have i:=lt_mul e b.y a.y;have j:=lt_mul e b.y d.y;unfold jj;simp only[sc]at*
 (repeat' split)<;>omega
def Ig(a b p:Pt):Prop:=ae a b p=0→¬(a.y≤p.y∧p.y<b.y)∧¬(b.y≤p.y∧p.y<a.y)
def lift(D m:Int)(p:Pt):Pt:=⟨D*(m*p.x),D*(m*p.y+1)⟩
theorem D8{D m:Int}(d:0<D)(a b p:Pt)(hm:2≤m)(q:b.x-a.x<m)(r: -m<b.x-a.x)(h:Ig a b p):chi (sc (D*m) a) (sc (D*m) b) (lift D m p)=chi a b p:=by
 have f:ae (sc (D*m) a) (sc (D*m) b) (lift D m p)=(D*m*D)*(m*ae a b p+(b.x-a.x)):=by unfold ae sc lift;simp only;grind
 have e:0<D*m:=Int.mul_pos d O9;have s:=tC (Int.mul_pos e d) (m*ae a b p+(b.x-a.x));rw[←f]at s;have t:(0<ae a b p→0<m*ae a b p+(b.x-a.x))∧(ae a b p<0→m*ae a b p+(b.x-a.x)<0):=by
  constructor
  ·intro g;have:=(lt_mul (c:=m) O9 1 (ae a b p)).2.1.2 O9;omega
  ·intro g;have:=(lt_mul (c:=m) O9 (ae a b p) (-1)).2.1.2 O9;omega
 have key:∀v:Pt,((sc (D*m) v).y≤(lift D m p).y↔v.y≤p.y)∧((lift D m p).y<(sc (D*m) v).y↔p.y<v.y):=by
  intro v;have i:(sc (D*m) v).y=D*(m*v.y):=by unfold sc;simp only;grind
  have j:(lift D m p).y=D*(m*p.y+1):=rfl;have g1:=lt_mul d (m*v.y) (m*p.y+1);have g2:=lt_mul d (m*p.y+1) (m*v.y);rw[i,j];have g3:=lt_mul (c:=m) O9 v.y p.y;have g4:=lt_mul (c:=m) O9 (p.y+1) v.y;have g5:m*(p.y+1)=m*p.y+m:=by grind
  rw[g5]at g4;have:v.y≤p.y∨p.y+1≤v.y:=O9;omega
 obtain⟨k,l⟩:=key a;obtain⟨n,o⟩:=key b;unfold Ig at h;unfold chi;generalize (lift D m p).y=ly at*;generalize ae (sc (D*m) a) (sc (D*m) b) (lift D m p)=C at*;generalize m*ae a b p+(b.x-a.x)=u at*;clear f key
 (repeat' split)<;>omega
def Ju(P:Nat→Pt)(D m y:Int)(j:Nat):Int:=D*m*(P j).x+((P (j+1)).x-(P j).x)*(D/((P (j+1)).y-(P j).y))*(m*(y-(P j).y)+1)
def Gk(n i k:Nat):Bool:=decide ((i:Int)-k=1)||decide ((i:Int)-k=(n:Int)-1)
def qh(n:Nat)(x y:Nat×Sg):Bool:=if Gk n x.1 y.1 then decide (meets x.2 y.2=1)else decide (meets x.2 y.2=0)
def gU(n:Nat)(x:Nat×Sg):List (Nat×Sg)→Bool
 | []=>true
 |y::l=>(decide (x.1≤y.1)||qh n x y)&&gU n x l
theorem nh(n:Nat)(x:Nat×Sg)(a b:List (Nat×Sg)):gU n x (a++b)=(gU n x a&&gU n x b):=by
 induction a with
 |nil=>simp[gU]
 |cons y l c=>simp only[List.cons_append,gU,c,Bool.and_assoc]
def iZ(n:Nat)(s:List (Nat×Sg)):List (Nat×Sg)→Bool
 | []=>true
 |x::l=>gU n x s&&iZ n s l
theorem nk(n:Nat)(s a b:List (Nat×Sg)):iZ n s (a++b)=(iZ n s a&&iZ n s b):=by
 induction a with
 |nil=>simp[iZ]
 |cons y l c=>simp only[List.cons_append,iZ,c,Bool.and_assoc]
def simple(r:List Pt):Bool:=regB r&&iZ r.length (sidesL r) (sidesL r)
theorem uU(n:Nat)(r:List Pt)(x:Nat×Sg)(k:Nat)(a:k≤r.length)(hx:x.1≤k)(h:gU n x (upto r k)=true):gU n x (sidesL r)=true:=by
 have key:∀m,k≤m→m≤r.length→gU n x (upto r m)=true:=by
  intro m hm hr;induction m with
  |zero=>
   obtain rfl:k=0:=O9;exact h
  |succ m b=>
   by_cases e:k=m+1
   ·rw[←e];exact h
   ·rw[rL,nh,b O9 O9];have:decide (x.1≤m)=true:=decide_eq_true O9;simp[gU,this]
 exact key r.length a (Nat.le_refl _)
theorem uV(r:List Pt)(l:List (Nat×Sg))(h:l<+:sidesL r):l=upto r l.length∧l.length≤r.length:=by
 have a:l.length≤r.length:=by
  have:=h.length_le;have e:(sidesL r).length=r.length:=by simp[sidesL]
  omega
 refine⟨?_,a⟩;have c:=List.prefix_iff_eq_take.1 h;have b:=List.prefix_iff_eq_take.1 (uR r l.length a);rw[uS]at b;rw[b];exact c
theorem D9(r:List Pt)(k:Nat)(y:Nat×Sg)(h:y∈upto r k):y.1<k:=by
 unfold upto at h;obtain⟨i,hi,rfl⟩:=List.mem_map.1 h;exact List.mem_range.1 hi
theorem uW(n:Nat)(x:Nat×Sg)(a b:List (Nat×Sg))(h:a<+:b)(ha:gU n x a=false):gU n x b=false:=by
 obtain⟨t,rfl⟩:=h;rw[nh,ha];rfl
theorem uX(n:Nat)(s a b:List (Nat×Sg))(h:a<+:b)(ha:iZ n s a=false):iZ n s b=false:=by
 obtain⟨t,rfl⟩:=h;rw[nk,ha];rfl
def dblP(p:Pt):Pt:=⟨2*p.x,2*p.y⟩
def Ih(r:List Pt):List Pt:=r.map dblP
def Jv(s:Sg):Pt:=⟨s.a.x+s.b.x,s.a.y+s.b.y⟩
def I1(big:List Pt)(v:Int):List (Nat×Sg)→Int
 | []=>0
 |x::l=>(if Ic big (Jv x.2)=v then 1 else 0)+I1 big v l
def ja(r s:List Pt)(v:Int):Int:=I1 (Ih s) v (sidesL r)
def badM(m:Int):Bool:=m ==2||m ==3||m ==5
theorem simple_reg(r:List Pt)(h:simple r=true):regB r=true:=by
 unfold simple at h;simp only[Bool.and_eq_true]at h;exact h.1
end Go.Proofs.Pri
namespace Go.Proofs.Pg
theorem fU(a b:Pt):aN b a= -aN a b:=by
 obtain⟨ax,ay⟩:=a;obtain⟨bx,bY⟩:=b;unfold aN eO;simp only;(repeat' split)<;>omega
theorem bH(a b:Pt):aN a b=0↔a=b:=by
 obtain⟨ax,ay⟩:=a;obtain⟨bx,bY⟩:=b;unfold aN eO;simp only[Pt.mk.injEq];(repeat' split)<;>omega
def kG(s:Sg):Sg:=⟨s.b,s.a⟩
theorem mr(s:Sg):aO (kG s)=aO s:=by
 obtain⟨a,b⟩:=s;have h:=fU a b;have d:=bH a b;show(if 0<aN b a then (⟨a,b⟩:Sg)else ⟨b,a⟩)=if 0<aN a b then (⟨b,a⟩:Sg)else ⟨a,b⟩
 rw[h];by_cases c:0<aN a b
 ·rw[if_neg O9,if_pos c]
 ·by_cases e:aN a b=0
  ·rw[if_neg O9,if_neg c,d.1 e]
  ·rw[if_pos O9,if_neg c]
theorem dE(s:Sg):aN (aO s).a (aO s).b≤0:=by
 obtain⟨a,b⟩:=s;simp only[aO];have h:=fU a b;split
 ·show aN b a≤0;omega
 ·show aN a b≤0;omega
theorem jb(s:Sg)(h:aN s.a s.b≤0):aO s=s:=by
 unfold aO;rw[if_neg O9]
theorem eQ(a b c d:Pt):aD [c,d,a,b]=aD [a,b,c,d]:=by
 rw[Bool.eq_iff_iff];simp only[aD,Bool.and_true,Bool.and_eq_true];constructor<;>(rintro⟨e,f,g,h⟩;exact⟨g,h,e,f⟩)
theorem mu(a b c d:Pt):aD [b,a,c,d]=aD [a,b,c,d]:=by
 rw[Bool.eq_iff_iff];simp only[aD,Bool.and_true,Bool.and_eq_true];constructor<;>(rintro⟨e,f,g⟩;exact⟨f,e,g⟩)
theorem oh(x:Int):eO x 0=0↔x=0:=by
 unfold eO;split
 ·constructor<;>intro h<;>omega
 ·split<;>constructor<;>intro h<;>omega
theorem aP(a b c:Pt)(h:aD [a,b,c]=true):ah a b c=0↔ae a b c=0:=by
 unfold ah;rw[if_pos h];exact oh _
theorem eF(a b c d:Pt)(e:a≠b)(k:ae a b c=0)(l:ae a b d=0):ae c d a=0∧ae c d b=0:=by
 obtain⟨ax,ay⟩:=a;obtain⟨bx,bY⟩:=b;obtain⟨cx,cy⟩:=c;obtain⟨dx,dy⟩:=d;simp only[ae]at*;have f:bx-ax≠0∨bY-ay≠0:=by
  rcases Decidable.em (bx-ax=0)with h|h
  ·right;intro m;apply e;rw[Pt.mk.injEq];omega
  ·exact .inl h
 have g:(bx-ax)*((dx-cx)*(ay-cy)-(dy-cy)*(ax-cx))=0:=by grind
 have i:(bY-ay)*((dx-cx)*(ay-cy)-(dy-cy)*(ax-cx))=0:=by grind
 have j:(dx-cx)*(ay-cy)-(dy-cy)*(ax-cx)=0:=by
  rcases f with h|h
  ·exact(Int.mul_eq_zero.1 g).resolve_left h
  ·exact(Int.mul_eq_zero.1 i).resolve_left h
 refine⟨j,?_⟩;grind
theorem uY(a b c d:Int):cO a b c d=cO c d a b:=by
 unfold cO;generalize a*b=x;generalize c*d=y
 (repeat' split)<;>omega
theorem BF(s t:Sg):fB s t=fB t s:=by
 unfold fB;have h:=fU t.a s.a;have c:=bH t.a s.a;rw[h];by_cases b:0<aN t.a s.a
 ·rw[if_pos b,if_neg O9]
 ·by_cases d:aN t.a s.a=0
  ·rw[if_neg b,if_neg O9,c.1 d]
  ·rw[if_neg b,if_pos O9]
theorem xY(s t:Sg):di s t=di t s:=by
 unfold di;have h:=fU t.b s.b;have c:=bH t.b s.b;rw[h];by_cases a:aN t.b s.b<0
 ·rw[if_pos a,if_neg O9]
 ·by_cases d:aN t.b s.b=0
  ·rw[if_neg a,if_neg O9,c.1 d]
  ·rw[if_neg a,if_pos O9]
theorem rO(p q:Pt)(h:p≠q):eD ⟨p,p⟩ q=false:=by
 have hs:aO ⟨p,p⟩=⟨p,p⟩:=jb _ (by rw[(bH p p).2 rfl];exact Int.le_refl _);unfold eD;rw[hs];have:decide (q=p)=false:=by simpa using fun e=>h e.symm
 simp[this]
theorem kH(s t:Sg)(h:s≠t):dc s t=dc t s:=by
 unfold dc;by_cases d:t.a=t.b
 ·by_cases c:s.a=s.b
  ·rw[if_pos d,if_pos c];obtain⟨g,sb⟩:=s;obtain⟨i,j⟩:=t;simp only at d c;subst d c;have f:g≠i:=fun e=>h (by rw[e]);simp only[mW,rO g i f,rO i g (fun e=>f e.symm),Bool.false_eq_true,if_false]
  ·rw[if_pos d,if_neg c,if_pos d]
 ·by_cases c:s.a=s.b
  ·rw[if_neg d,if_pos c,if_pos c]
  ·rw[if_neg d,if_neg c,if_neg c,if_neg d,BF,xY]
theorem uZ(s t:Sg)(m:aD [s.a,s.b,t.a,t.b]=true):bz s t=bz t s:=by
 by_cases c:s=t
 ·rw[c]
 have n:bz s t=if s.a=s.b∨t.a=t.b∨(ah s.a s.b t.a=0∧ah s.a s.b t.b=0)then dc s t else cO (ah s.a s.b t.a) (ah s.a s.b t.b) (ah t.a t.b s.a) (ah t.a t.b s.b):=by
  unfold bz;rw[if_neg c]
 have o:bz t s=if t.a=t.b∨s.a=s.b∨(ah t.a t.b s.a=0∧ah t.a t.b s.b=0)then dc t s else cO (ah t.a t.b s.a) (ah t.a t.b s.b) (ah s.a s.b t.a) (ah s.a s.b t.b):=by
  unfold bz;rw[if_neg (fun e=>c e.symm)]
 rw[n,o];clear n o;simp only[aD,Bool.and_true,Bool.and_eq_true]at m;obtain⟨i,j,k,l⟩:=m;have p:=aP s.a s.b t.a (by simp[aD,i,j,k]);have z2:=aP s.a s.b t.b (by simp[aD,i,j,l]);have z3:=aP t.a t.b s.a (by simp[aD,k,l,i]);have z4:=aP t.a t.b s.b (by simp[aD,k,l,j]);by_cases d:s.a=s.b
 ·rw[if_pos (.inl d),if_pos (.inr (.inl d)),kH s t c]
 by_cases f:t.a=t.b
 ·rw[if_pos (.inr (.inl f)),if_pos (.inl f),kH s t c]
 by_cases g:ah s.a s.b t.a=0∧ah s.a s.b t.b=0
 ·have:=eF s.a s.b t.a t.b d (p.1 g.1) (z2.1 g.2);rw[if_pos (.inr (.inr g)),if_pos (.inr (.inr ⟨z3.2 this.1,z4.2 this.2⟩)),kH s t c]
 ·have q:¬(ah t.a t.b s.a=0∧ah t.a t.b s.b=0):=fun h=>by
   have:=eF t.a t.b s.a s.b f (z3.1 h.1) (z4.1 h.2);exact g ⟨p.2 this.1,z2.2 this.2⟩
  rw[if_neg (by simp only[d,f,false_or];exact g),if_neg (by simp only[d,f,false_or];exact q),uY]
theorem gC(s:Sg)(c d:Pt):aD [(aO s).a,(aO s).b,c,d]=aD [s.a,s.b,c,d]:=by
 unfold aO;split
 ·exact mu s.a s.b c d
 ·rfl
theorem cY(s t:Sg):meets s t=meets t s:=by
 unfold meets;rw[eQ s.a s.b t.a t.b];split
 ·rename_i h;refine uZ _ _ ?_;rw[gC,←eQ,gC,eQ];exact h
 ·rfl
theorem mw(s t:Sg):meets (kG s) t=meets s t:=by
 unfold meets;rw[mr];show(if aD [s.b,s.a,t.a,t.b]=true then _ else _)=_;rw[mu]
theorem oZ(s t:Sg):meets s (kG t)=meets s t:=by
 rw[cY,mw,cY]
theorem BG(s t:Sg)(h:aD [s.a,s.b,t.a,t.b]=false):meets s t=0:=by
 unfold meets;rw[h];rfl
theorem cZ(a b:Pt):ae a b a=0∧ae a b b=0:=by
 simp only[ae];constructor<;>grind
theorem vb(s t:Sg):0≤meets s t∧meets s t≤5:=by
 unfold meets bz dc mW fG cO
 (repeat' split)<;>omega
end Go.Proofs.Pg
namespace Go.Proofs.Pri
open Go.Proofs.Pg
def sd(r:List Pt):List Sg:=(List.range r.length).map (sideAt r)
def Alike(a b:List Sg):Prop:=a.Perm b∨a.Perm (b.map kG)
theorem Alike.trans{a b c:List Sg}(h:Alike a b)(k:Alike b c):Alike a c:=by
 have e:∀l:List Sg,(l.map kG).map kG=l:=fun l=>by rw[List.map_map];exact List.map_id'' (fun s=>rfl) l
 rcases h with h|h<;>rcases k with k|k
 ·exact .inl (h.trans k)
 ·exact .inr (h.trans k)
 ·exact .inr (h.trans (k.map _))
 ·refine .inl (h.trans ?_);have:=k.map kG;rwa [e]at this
def D'(n i k:Nat):Prop:=(i+1)%n=k∨(k+1)%n=i
theorem vd(n:Nat)(x:Nat×Sg)(l:List (Nat×Sg)):gU n x l=true↔∀y∈l,x.1≤y.1∨qh n x y=true:=by
 induction l with
 |nil=>simp[gU]
 |cons y l a=>simp[gU,a]
theorem Ea(n:Nat)(s l:List (Nat×Sg)):iZ n s l=true↔∀x∈l,gU n x s=true:=by
 induction l with
 |nil=>simp[iZ]
 |cons y l a=>simp[iZ,a]
theorem Aj(n i k:Nat)(b:3≤n)(hi:i<n)(c:k<i):Gk n i k=true↔D' n i k:=by
 unfold Gk D';simp only[Bool.or_eq_true,decide_eq_true_eq];have a:(k+1)%n=k+1:=Nat.mod_eq_of_lt O9;rw[a];by_cases h:i+1=n
 ·rw[h,Nat.mod_self];omega
 ·rw[Nat.mod_eq_of_lt O9];omega
structure Simp(r:List Pt):Prop where
 reg:regB r=true
 near:∀i k,i<r.length→k<r.length→i≠k→D' r.length i k→meets (sideAt r i) (sideAt r k)=1
 far:∀i k,i<r.length→k<r.length→i≠k→¬D' r.length i k→meets (sideAt r i) (sideAt r k)=0
theorem ve(n i k:Nat):D' n i k↔D' n k i:=by unfold D';omega
theorem simple_iff(r:List Pt):simple r=true↔Simp r:=by
 unfold simple;rw[Bool.and_eq_true,Ea];constructor
 ·rintro⟨d,f⟩;obtain⟨g,_,_⟩:=(regB_iff r).1 d;have key:∀i k,i<r.length→k<i→qh r.length (i,sideAt r i) (k,sideAt r k)=true:=by
   intro i k hi b;have:=f (i,sideAt r i) (List.mem_map.2 ⟨i,List.mem_range.2 hi,rfl⟩);rw[vd]at this;rcases this (k,sideAt r k) (List.mem_map.2 ⟨k,List.mem_range.2 O9,rfl⟩)with h|h
   ·simp only at h;omega
   ·exact h
  have a:∀i k,i<r.length→k<i→(D' r.length i k→meets (sideAt r i) (sideAt r k)=1)∧(¬D' r.length i k→meets (sideAt r i) (sideAt r k)=0):=by
   intro i k hi b;have hp:=key i k hi b;unfold qh at hp;simp only at hp;have e:=Aj r.length i k g hi b;constructor
   ·intro ha;rw[if_pos (e.2 ha)]at hp;simpa using hp
   ·intro ha;rw[if_neg (fun h=>ha (e.1 h))]at hp;simpa using hp
  refine⟨d,fun i k hi b c ha=>?_,fun i k hi b c ha=>?_⟩
  ·rcases Nat.lt_or_gt_of_ne c with h|h
   ·rw[cY];exact(a k i b h).1 ((ve _ _ _).1 ha)
   ·exact(a i k hi h).1 ha
  ·rcases Nat.lt_or_gt_of_ne c with h|h
   ·rw[cY];exact(a k i b h).2 (fun j=>ha ((ve _ _ _).1 j))
   ·exact(a i k hi h).2 ha
 ·rintro⟨d,f,g⟩;obtain⟨l,_,_⟩:=(regB_iff r).1 d;refine⟨d,fun x hx=>?_⟩;obtain⟨i,hi,rfl⟩:=List.mem_map.1 hx;rw[vd];intro y hy;obtain⟨k,b,rfl⟩:=List.mem_map.1 hy;rw[List.mem_range]at hi b;by_cases h:i≤k
  ·exact .inl h
  ·right;unfold qh;simp only;have e:=Aj r.length i k l hi O9;by_cases ha:Gk r.length i k=true
   ·rw[if_pos ha];exact decide_eq_true (f i k hi b O9 (e.1 ha))
   ·rw[if_neg ha];exact decide_eq_true (g i k hi b O9 (fun j=>ha (e.2 j)))
theorem mod_eq_iff(n a b:Nat)(ha:a<2*n)(hb:b<n):a%n=b↔(a=b∨a=b+n):=by
 by_cases c:a<n
 ·rw[Nat.mod_eq_of_lt c];omega
 ·rw[Nat.mod_eq_sub_mod O9,Nat.mod_eq_of_lt O9];omega
theorem Alike.symm{a b:List Sg}(h:Alike a b):Alike b a:=by
 have e:∀l:List Sg,(l.map kG).map kG=l:=fun l=>by rw[List.map_map];exact List.map_id'' (fun s=>rfl) l
 rcases h with h|h
 ·exact .inl h.symm
 ·refine .inr ?_;have:=h.symm.map kG;rwa [e]at this
structure Ord(r r':List Pt):Prop where
 simple:simple r'=simple r
 alike:Alike (sd r') (sd r)
 dbl:Alike (sd (Ih r')) (sd (Ih r))
theorem Ord.trans{r r' a:List Pt}(h:Ord r r')(k:Ord r' a):Ord r a:=⟨k.simple.trans h.simple,k.alike.trans h.alike,k.dbl.trans h.dbl⟩
theorem Ord.refl(r:List Pt):Ord r r:=⟨rfl,.inl (List.Perm.refl _),.inl (List.Perm.refl _)⟩
