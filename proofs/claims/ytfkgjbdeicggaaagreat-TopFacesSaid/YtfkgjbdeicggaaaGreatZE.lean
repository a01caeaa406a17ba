/-
  The plain laws of layer 14 (face).
-/
import Derived.Test.YtfkgjbdeicggaaaGreatZD
namespace Go.Proofs.Pf
open Go.Proofs.Pg Go.Proofs.Pri
def Out(u v w x:Pt):Prop:=jj u v x+kk v x+jj x v w=jj u v w
theorem vq{a b q:Pt}{m k:Int}(h:iw a b q m k):iw b a q k m:=by
 obtain⟨c,d,e,f⟩:=h;exact⟨d,c,by grind,by grind⟩
theorem Ej{a b q:Pt}{m k:Int}(h:iw a b q m k)(c:a≠b):q≠b:=by
 intro e;subst e;obtain⟨i,j,l,n⟩:=h;have d:m*(q.x-a.x)=0:=by grind
 have f:m*(q.y-a.y)=0:=by grind
 rcases Int.mul_eq_zero.1 d with g|g
 ·omega
 ·rcases Int.mul_eq_zero.1 f with g2|g2
  ·omega
  ·exact c (by cases a;cases q;simp only[Pt.mk.injEq]at*;omega)
structure Is(a b q:Pt):Prop where
 xl:q.x<b.x↔a.x<b.x
 xg:b.x<q.x↔b.x<a.x
 yl:q.y<b.y↔a.y<b.y
 yg:b.y<q.y↔b.y<a.y
 crs:∀c,(0<ae q b c↔0<ae a b c)∧(ae q b c<0↔ae a b c<0)∧(ae q b c=0↔ae a b c=0)
theorem pS{a b q:Pt}{m k:Int}(h:iw a b q m k):Is a b q:=by
 have hm:0<m+k:=by have:=h.pm;have:=h.pk;omega
 have ex:(m+k)*(q.x-b.x)=m*(a.x-b.x):=by have:=h.ex;grind
 have ey:(m+k)*(q.y-b.y)=m*(a.y-b.y):=by have:=h.ey;grind
 have d:=mY hm h.pm ex;have f:=mY hm h.pm ey;refine⟨O9,O9,O9,O9,fun c=>?_⟩;have e:(m+k)*ae q b c=m*ae a b c:=by
  have g:=h.ex;have i:=h.ey;unfold ae;grind
 exact mY hm h.pm e
theorem Is.corner{a b q c:Pt}(h:Is a b q)(d:q≠b)(f:Corner a b c):Corner q b c:=by
 refine⟨d,f.bc,fun e=>?_⟩;have hs:=f.str ((h.crs c).2.2.1 e);have:=h.xl;have:=h.xg;have:=h.yl;have:=h.yg;omega
theorem Is.jj{a b q c:Pt}(h:Is a b q):Pri.jj q b c=Pri.jj a b c:=by
 have d:=(h.crs c).1;have e:=(h.crs c).2.1;have:=h.yl;have:=h.yg;unfold Pri.jj
 (repeat' split)<;>omega
theorem Is.kk{a b q:Pt}(h:Is a b q):Pri.kk q b=Pri.kk a b:=by
 have:=h.xl;have:=h.xg;have:=h.yl;have:=h.yg;unfold Pri.kk
 (repeat' split)<;>omega
theorem Ek{a b p:Pt}(h:ae a b p=0):chi a b p=0:=by
 unfold chi;rw[h]
 (repeat' split)<;>omega
theorem AH{p q v:Pt}(h:ae p q v=0):hs p q v=0:=by
 unfold hs;rw[h]
 (repeat' split)<;>omega
def gg(q v q':Pt)(t:Dart):Int:=chi t.1 t.2 q-chi t.1 t.2 q'-((hs q v t.2+hs v q' t.2)-(hs q v t.1+hs v q' t.1))
theorem I3(q v q':Pt)(t:Dart):gg q v q' (bk t)= -gg q v q' t:=by
 unfold gg bk;simp only;rw[fT t.1 t.2,fT t.1 t.2];omega
theorem tJ(q v q':Pt):hs q v v+hs v q' v=0:=by
 rw[AH (bV q v).1,AH (bV v q').2];rfl
theorem Iu{u v w x q q':Pt}{m k m' k':Int}(h:iw u v q m k)(b:iw v w q' m' k')(a:u≠v)(c:Corner u v x)(d:Out u v w x):gg q v q' (v,x)=jj u v w-kk u v:=by
 have hb:=pS h;have e:=D6 q v x (hb.corner (Ej h a) c);rw[hb.jj,hb.kk]at e;have f:=DZ x v q';rw[b.ray.jj,fT v x]at f;have g:=tJ q v q';unfold gg;unfold Out at d;simp only;omega
theorem Jw{u v w q q':Pt}{m k m' k':Int}(h:iw u v q m k)(a:iw v w q' m' k'):gg q v q' (v,u)=jj u v w:=by
 have l:=h.on_line;have b:=DZ u v q';rw[a.ray.jj,fT v u]at b;have c:=tJ q v q';have c1:chi v u q=0:=Ek (by rw[gD];omega);have c2:hs q v u=0:=AH (((pS h).crs u).2.2.2 (bV u v).2);unfold gg;simp only;omega
theorem Jy{u v w q q':Pt}{m k m' k':Int}(h:iw u v q m k)(a:iw v w q' m' k')(b:u≠v)(c:Corner u v w):gg q v q' (v,w)=jj u v w+kk v w-kk u v:=by
 have hb:=pS h;have d:=D6 q v w (hb.corner (Ej h b) c);rw[hb.jj,hb.kk]at d;have i:=tJ q v q';have c1:chi v w q'=0:=Ek a.on_line;have c2:hs v q' w=0:=AH (by
  have:=(pS (vq a)).crs v;have l:ae w v v=0:=(bV w v).1;have:=a.on_line;have e:=a.crs1 w;rw[(bV v w).1,Int.mul_zero]at e;have f:0<m'+k':=by have:=a.pm;have:=a.pk;omega
  rcases Int.mul_eq_zero.1 e with g|g
  ·omega
  ·exact g)
 unfold gg;simp only;omega
theorem Iv{D:List Dart}(b:Gr D){u v w q q':Pt}{m k m' k':Int}(h:iw u v q m k)(f:iw v w q' m' k')(hu:(u,v)∈D)(hw:(v,w)∈D){t:Dart}(g:t∈D)(i:t.1≠v)(j:t.2≠v):gg q v q' t=0:=by
 have key:∀ {a q:Pt}{m k:Int},iw v a q m k→(v,a)∈D→apart v q t.1 t.2:=fun {a q m k} hm ha=>by
  by_cases c:t.1=a
  ·rw[c];exact hm.apart_next
  by_cases d:t.2=a
  ·rw[d];exact i' hm.apart_next
  ·exact hm.apart (b.far _ ha _ g (fun e=>i e.symm) (fun e=>j e.symm) (fun e=>c e.symm) (fun e=>d e.symm)).1
 have a1:=qf _ _ _ _ (key (vq h) (b.back _ hu));have a2:=qf _ _ _ _ (key f hw);have s1:=lD v q t.1;have s2:=lD v q t.2;unfold gg;omega
theorem rU{L:List Dart}(a:da L)(v:Pt):sl (fun t=>(if t.1=v then (1:Int)else 0)-(if t.2=v then 1 else 0)) L=0:=by
 have:=a fun p=>if p=v then-1 else 0
 rw[←this];exact aR fun t _=>by(repeat' split)<;>omega
theorem El{D L:List Dart}(g:Gr D)(r:∀t∈L,t∈D)(p:da L){u v w:Pt}(hu:(u,v)∈D)(hw:(v,w)∈D)(c:w≠u)(s:∀x,(v,x)∈D→x≠u→x≠w→Out u v w x)
  {q q':Pt}{m k m' k':Int}(h:iw u v q m k)(l:iw v w q' m' k'):wd L q+kk u v*zz L (u,v)=wd L q'+kk v w*zz L (v,w):=by
 have i:u≠v:=g.ne _ hu;have n:v≠w:=g.ne _ hw;have out:∀x,(v,x)∈D→gg q v q' (v,x)=(jj u v w-kk u v)+(if x=w then kk v w else 0)+(if x=u then kk u v else 0):=fun x hx=>by
  by_cases d:x=u
  ·subst d;rw[if_neg (fun e=>c e.symm),if_pos rfl,Jw h l];omega
  ·by_cases j:x=w
   ·subst j;rw[if_pos rfl,if_neg d,Jy h l i (g.corB hu hx d)];omega
   ·rw[if_neg j,if_neg d,Iu h l i (g.corB hu hx d) (s x hx d j)];omega
 have key:∀t∈L,gg q v q' t=(jj u v w-kk u v)*((if t.1=v then (1:Int)else 0)-(if t.2=v then 1 else 0))+kk v w*((if t=(v,w)then 1 else 0)-(if t=bk (v,w)then 1 else 0))-kk u v*((if t=(u,v)then 1 else 0)-(if t=bk (u,v)then 1 else 0)):=fun t y=>by
  have f:=r t y;obtain⟨a,b⟩:=t;have o:a≠b:=g.ne _ f;by_cases d:a=v
  ·subst d;have z:b≠a:=fun e=>o e.symm;rw[out b f];simp only[bk,Prod.mk.injEq,z,if_true,if_false,true_and,and_false,i.symm,n];by_cases f1:b=w<;>by_cases f2:b=u<;>simp[f1,f2,c,c.symm]<;>(try omega)
  ·by_cases j:b=v
   ·subst j;have hb:=g.back _ f;have:=I3 q b q' (b,a);have A:bk (b,a)=(a,b):=rfl;rw[A]at this;rw[this,out a hb];simp only[bk,Prod.mk.injEq,d,if_true,if_false,false_and,and_true];by_cases f1:a=w<;>by_cases f2:a=u<;>simp[f1,f2,c,c.symm]<;>(try omega)
   ·rw[Iv g h l hu hw f d j];simp only[bk,Prod.mk.injEq,d,j,if_false,false_and,and_false];omega
 have hs:sl (gg q v q') L=wd L q-wd L q':=by
  have B:=p fun x=>hs q v x+hs v q' x;unfold gg wd;rw[jr,jr,B];omega
 have hr:=aR key;rw[hs,jr,mA,iA,iA,iA,rU p v]at hr;unfold zz;omega
theorem Iw{u v w x:Pt}(h:Out u v w x){c:Int}(a:0<c):Out (sc c u) (sc c v) (sc c w) (sc c x):=by
 unfold Out at*;rw[D7 a,D7 a,D7 a,Ag a];exact h
theorem Em{D L:List Dart}(h:Gr D)(k:∀t∈L,t∈D)(l:da L){u v w:Pt}(hu:(u,v)∈D)(hw:(v,w)∈D)(j:∀x,(v,x)∈D→x≠u→x≠w→w≠u∧Out u v w x):F L (u,v)=F L (v,w):=by
 have two:(0:Int)<2:=O9;by_cases e:w=u
 ·subst e;have o:zz L (w,v)=0:=by
   have:=rU l v;unfold zz;rw[aR (g:=fun t=> -((if t.1=v then (1:Int)else 0)-(if t.2=v then 1 else 0)))]
   ·rw[js,this];rfl
   ·intro t p;have f:=k t p;obtain⟨a,b⟩:=t;have c:a≠b:=h.ne _ f;by_cases m:a=v
    ·subst m;have d:b=w:=by
      by_cases d:b=w
      ·exact d
      ·exact absurd rfl (j b f d d).1
     subst d;simp[bk,c,c.symm]
    ·by_cases i:b=v
     ·subst i;have d:a=w:=by
       by_cases d:a=w
       ·exact d
       ·exact absurd rfl (j a (h.back _ f) d d).1
      subst d;simp[bk,c,c.symm]
     ·simp[bk,m,i]
  have:=tI (L:=L) (h.ne _ hu);rw[o]at this;have i:bk (w,v)=(v,w):=rfl;rw[i]at this;omega
 ·have hm:∀ {s:Dart},s∈D→jv 2 s∈fI 2 D:=fun hs=>List.mem_map.2 ⟨_,hs,rfl⟩;have:=El (h.sc two) (lH k) (l.sc 2) (u:=sc 2 u) (v:=sc 2 v) (w:=sc 2 w) (hm hu) (hm hw) (fun d=>e (jQ two d)) (fun x hx q r=>by
   obtain⟨⟨a,b⟩,c,he⟩:=List.mem_map.1 hx;simp only[jv,Prod.mk.injEq]at he;obtain⟨g1,g2⟩:=he;have:=jQ two g1;subst this;subst g2;exact Iw (j b c (fun e=>q (by rw[e])) (fun e=>r (by rw[e]))).2 two) (lG (u,v)) (lG (v,w))
  rw[Ag two,Ag two]at this;have n:=Ei two L (u,v);have z2:=Ei two L (v,w);unfold jv at n z2;rw[n,z2]at this;exact this
theorem Gw{α:Type}(f:α→Int)(P:α→Prop)(l:List α)(h:∃a∈l,P a):∃a∈l,P a∧∀b∈l,P b→f a≤f b:=by
 induction l with
 |nil=>obtain⟨a,ha,_⟩:=h;cases ha
 |cons a l k=>
  by_cases i:∃b∈l,P b
  ·obtain⟨b,hb,hp,hm⟩:=k i;by_cases j:P a∧f a≤f b
   ·refine⟨a,List.mem_cons_self ..,j.1,fun c d g=>?_⟩;rcases List.mem_cons.1 d with rfl|d
    ·exact Int.le_refl _
    ·have:=hm c d g;omega
   ·refine⟨b,List.mem_cons_of_mem _ hb,hp,fun c d g=>?_⟩;rcases List.mem_cons.1 d with rfl|d
    ·have:¬f c≤f b:=fun e=>j ⟨g,e⟩;omega
    ·exact hm c d g
  ·obtain⟨b,hb,hp⟩:=h;rcases List.mem_cons.1 hb with rfl|hb
   ·refine⟨b,List.mem_cons_self ..,hp,fun c d g=>?_⟩;rcases List.mem_cons.1 d with rfl|d
    ·exact Int.le_refl _
    ·exact absurd ⟨c,d,g⟩ i
   ·exact absurd ⟨b,hb,hp⟩ i
def jO(c y:Int)(s:Dart):Prop:=c*s.1.y<y∧y<c*s.2.y
def tK(c y:Int)(s:Dart):Prop:=jO c y s∨jO c y (bk s)
instance (c y:Int)(s:Dart):Decidable (jO c y s):=by unfold jO;infer_instance
structure Lv(D:List Dart)(c y:Int)(X:Dart→Int):Prop where
 pos:0<c
 off:∀s∈D,c*s.1.y≠y∧c*s.2.y≠y
 mid:∀s∈D,tK c y s→∃m k,iw (sc c s.1) (sc c s.2) ⟨X s,y⟩ m k
theorem rV{a b q:Pt}{m k:Int}(h:iw a b q m k)(x:Int):ae a b ⟨x,q.y⟩=(q.x-x)*(b.y-a.y):=by
 have e:=h.on_line;unfold ae at*;simp only at*;grind
theorem Lv.chi{D:List Dart}{c y:Int}{X:Dart→Int}(h:Lv D c y X){s:Dart}(hs:s∈D)(x:Int):Pri.chi (sc c s.1) (sc c s.2) ⟨x,y⟩=if x<X s then (if jO c y s then 1 else if jO c y (bk s)then-1 else 0)else 0:=by
 obtain⟨j,l⟩:=h.off s hs;have ey:∀v:Pt,(sc c v).y=c*v.y:=fun v=>rfl;by_cases a:tK c y s
 ·obtain⟨m,k,b⟩:=h.mid s hs a;have e:=rV b x;simp only at e;unfold Pri.chi;rw[e,ey,ey];unfold tK jO bk at*;simp only at*;rcases a with⟨f,i⟩|⟨f,i⟩
  ·have g:=kF (d:=c*s.2.y-c*s.1.y) O9 (X s-x);generalize (X s-x)*(c*s.2.y-c*s.1.y)=Z at*
   (repeat' split)<;>omega
  ·have g:=BD (d:=c*s.2.y-c*s.1.y) O9 (X s-x);generalize (X s-x)*(c*s.2.y-c*s.1.y)=Z at*
   (repeat' split)<;>omega
 ·unfold tK jO bk at a;unfold Pri.chi jO bk;simp only[ey]at*
  (repeat' split)<;>omega
theorem qk{c y:Int}{s:Dart}(h:tK c y s):tK c y (bk s):=h.symm
theorem Lv.xbk{D:List Dart}(e:Gr D){c y:Int}{X:Dart→Int}(h:Lv D c y X){s:Dart}(hs:s∈D)(a:tK c y s):X (bk s)=X s:=by
 obtain⟨m,k,f⟩:=h.mid s hs a;obtain⟨m',k',i⟩:=h.mid _ (e.back s hs) (qk a);have b:=rV f (X (bk s));have d:=i.on_line;rw[bk]at d;simp only at b d;rw[gD]at d;have j:ae (sc c s.1) (sc c s.2) ⟨X (bk s),y⟩=0:=by rw[bk]at*;omega
 rw[j]at b;rcases Int.mul_eq_zero.1 b.symm with g|g
 ·omega
 ·unfold tK jO bk at a;simp only[sc]at*;omega
theorem Lv.apart{D:List Dart}(g:Gr D){c y:Int}{X:Dart→Int}(h:Lv D c y X){s t:Dart}(hs:s∈D)(f:t∈D)(cs:tK c y s)(d:tK c y t)(he:X s=X t):t=s∨t=bk s:=by
 have z:=g.sc h.pos;have step:∀s t:Dart,s∈D→t∈D→tK c y s→tK c y t→X s=X t→s.2=t.1→t=bk s:=by
  intro s t hs f cs d he i;by_cases n:t.2=s.1
  ·obtain⟨a,b⟩:=s;obtain⟨A,B⟩:=t;simp only at i n;rw[bk,i,n]
  ·obtain⟨m,k,q⟩:=h.mid s hs cs;obtain⟨m',k',j⟩:=h.mid t f d;rw[←he]at j;have o:=rS (g.cor s hs t f i n) h.pos;rw[←i]at j;have s1:=lF j.pm j.pk (j.crs (sc c s.1) (sc c s.2));have s2:=(s1.2.2.1 (bV (sc c s.1) (sc c s.2)).1).2.2.1 q.on_line;have r:=o.str s2;unfold tK jO bk at cs d;simp only[sc]at r cs d;rw[←i]at d;omega
 by_cases i:s.2=t.1
 ·exact .inr (step s t hs f cs d he i)
 by_cases n:s.2=t.2
 ·have:=step s (bk t) hs (g.back t f) cs (qk d) (by rw[h.xbk g f d];exact he) n;exact .inl (by rw[←kK t,this];rfl)
 by_cases v:s.1=t.1
 ·have:=step (bk s) t (g.back s hs) f (qk cs) d (by rw[h.xbk g hs cs];exact he) v;exact .inl (by rw[this];rfl)
 by_cases w:s.1=t.2
 ·have:=step (bk s) (bk t) (g.back s hs) (g.back t f) (qk cs) (qk d) (by rw[h.xbk g hs cs,h.xbk g f d];exact he) w;exact .inr (by rw[←kK t,this];rfl)
 exfalso;obtain⟨m,k,q⟩:=h.mid s hs cs;obtain⟨m',k',j⟩:=h.mid t f d;rw[←he]at j;have p:∀ {a b:Pt},a≠b→sc c a≠sc c b:=fun u e=>u (jQ h.pos e);have x:=z.far (jv c s) (List.mem_map.2 ⟨s,hs,rfl⟩) (jv c t) (List.mem_map.2 ⟨t,f,rfl⟩) (p v) (p w) (p i) (p n);obtain⟨c1,c2⟩:=q.two j x.1;have l:=x.2 c1 c2;unfold BE at l;unfold tK jO bk at cs d;simp only[jv,sc]at l cs d;omega
theorem I4{c y:Int}(a:0<c){s:Dart}(h:jO c y s):kk s.1 s.2=1:=by
 obtain⟨b,d⟩:=h;have:=(lt_mul a s.1.y s.2.y).1.1 O9;unfold kk;rw[if_pos (.inl this)]
theorem I5{c y:Int}(a:0<c){s:Dart}(h:jO c y (bk s)):kk s.1 s.2=0:=by
 obtain⟨b,d⟩:=h;have:=(lt_mul a s.2.y s.1.y).1.1 (by simp only[bk]at*;omega);unfold kk;rw[if_neg O9]
theorem En{c y:Int}{s:Dart}(h:jO c y s):¬jO c y (bk s):=by
 unfold jO bk at*;simp only at*;omega
theorem Lv.down{D L:List Dart}(b:Gr D){c y:Int}{X:Dart→Int}(h:Lv D c y X)(d:∀t∈L,t∈D)(e:da L){s:Dart}(hs:s∈D)(a:jO c y (bk s)):wd (fI c L) ⟨X s,y⟩=F L s:=by
 obtain⟨m,k,f⟩:=h.mid s hs (.inr a);have:=Ir b d e hs h.pos f;rw[I5 h.pos a]at this;omega
theorem Lv.next{D:List Dart}(d:Gr D){c y:Int}{X:Dart→Int}(h:Lv D c y X)(x:Int):
  ((∀s∈D,jO c y s→X s≤x)∧∀L,(∀t∈L,t∈D)→da L→wd (fI c L) ⟨x,y⟩=0)∨
  ∃t∈D,jO c y t∧x<X t∧(∀s∈D,jO c y s→x<X s→X t≤X s)∧∀L,(∀t∈L,t∈D)→da L→wd (fI c L) ⟨x,y⟩=F L t:=by
 by_cases r:∃t∈D,jO c y t∧x<X t
 ·right;obtain⟨t,i,⟨hu,hx⟩,b⟩:=Gw X (fun t=>jO c y t∧x<X t) D r;refine⟨t,i,hu,hx,fun s hs p q=>b s hs ⟨p,q⟩,fun L n u=>?_⟩;obtain⟨m,k,v⟩:=h.mid t i (.inl hu);rw[←Ir d n u i h.pos v,I4 h.pos hu];have key:∀s∈L,Pri.chi (sc c s.1) (sc c s.2) ⟨x,y⟩-Pri.chi (sc c s.1) (sc c s.2) ⟨X t,y⟩=(if s=t then 1 else 0)-(if s=bk t then 1 else 0):=fun s hs=>by
   have a:=n s hs;rw[h.chi a,h.chi a];by_cases j:s=t
   ·subst j;have hb:s≠bk s:=fun e=>d.ne s a (by rw[Prod.ext_iff]at e;exact e.1);rw[if_pos hx,if_pos hu,if_neg O9,if_pos rfl,if_neg hb]
   ·by_cases o:s=bk t
    ·subst o;have l:=h.xbk d i (.inl hu);rw[if_pos O9,if_neg (En hu),if_pos (by rw[kK];exact hu),if_neg O9,if_neg j,if_pos rfl];rfl
    ·rw[if_neg j,if_neg o];by_cases f1:jO c y s
     ·have p:x<X s→X t≤X s:=fun g=>b s a ⟨f1,g⟩;have q:X s≠X t:=fun e=>(h.apart d i a (.inl hu) (.inl f1) e.symm).elim j o
      (repeat' split)<;>omega
     ·by_cases f2:jO c y (bk s)
      ·have l:=h.xbk d a (.inr f2);have p:x<X s→X t≤X s:=fun g=>by
        have:=b (bk s) (d.back s a) ⟨f2,O9⟩;omega
       have q:X s≠X t:=fun e=>(h.apart d i a (.inl hu) (.inr f2) e.symm).elim j o
       (repeat' split)<;>omega
      ·rw[if_neg f1,if_neg f2]
       (repeat' split)<;>omega
  have:=aR key;rw[jr]at this;unfold wd fI zz;rw[dq,dq];simp only[jv]at*;omega
 ·left;have f:∀s∈D,jO c y s→X s≤x:=fun s hs hu=>by
   have:¬x<X s:=fun e=>r ⟨s,hs,hu,e⟩;omega
  refine⟨f,fun L n _=>?_⟩;unfold wd fI;rw[dq];refine jc fun s hs=>?_;have a:=n s hs;simp only[jv];rw[h.chi a];by_cases f1:jO c y s
  ·have:=f s a f1;rw[if_neg O9]
  ·by_cases f2:jO c y (bk s)
   ·have l:=h.xbk d a (.inr f2);have:=f _ (d.back s a) f2;rw[if_neg O9]
   ·rw[if_neg f1,if_neg f2];split<;>rfl
def jw:List Dart→Int
 | []=>1
 |s::l=>(if s.2.y-s.1.y=0 then 1 else ((s.2.y-s.1.y).natAbs:Int))*jw l
theorem kL(D:List Dart):0<jw D:=by
 induction D with
 |nil=>show(0:Int)<1;omega
 |cons s l a=>unfold jw;exact Int.mul_pos (by split<;>omega) a
theorem ql{D:List Dart}{s:Dart}(h:s∈D)(a:s.2.y-s.1.y≠0):(s.2.y-s.1.y)∣jw D:=by
 induction D with
 |nil=>cases h
 |cons t l b=>
  unfold jw;rcases List.mem_cons.1 h with rfl|h
  ·rw[if_neg a];exact Int.dvd_trans (Int.dvd_natAbs.2 (Int.dvd_refl _)) (Int.dvd_mul_right _ _)
  ·exact Int.dvd_trans (b h) (Int.dvd_mul_left _ _)
def rz:List Dart→Int
 | []=>2
 |s::l=>((s.2.x-s.1.x).natAbs:Int)+rz l
theorem vs(D:List Dart):2≤rz D:=by
 induction D with
 |nil=>show(2:Int)≤2;omega
 |cons s l a=>unfold rz;omega
theorem Gx{D:List Dart}{s:Dart}(h:s∈D):s.2.x-s.1.x<rz D∧ -rz D<s.2.x-s.1.x:=by
 induction D with
 |nil=>cases h
 |cons t l a=>
  unfold rz;have:=vs l;rcases List.mem_cons.1 h with rfl|h
  ·omega
  ·have:=a h;omega
def xs(A m h:Int)(s:Dart):Int:=A*m*s.1.x+(s.2.x-s.1.x)*(A/(s.2.y-s.1.y))*(m*(h-s.1.y)+1)
theorem AI(D:List Dart)(A m h:Int)(hA:0<A)(hm:2≤m)(hdiv:∀s∈D,s.2.y-s.1.y≠0→(s.2.y-s.1.y)∣A):Lv D (A*m) (A*(m*h+1)) (xs A m h):=by
 have off:∀v:Int,A*m*v≠A*(m*h+1):=fun v e=>by
  rw[Int.mul_assoc]at e;have n:=(lt_mul hA (m*v) (m*h+1)).2.2.1 e;have o:m*(v-h)=1:=by rw[Int.mul_sub];omega
  have g:=lt_mul (c:=m) O9 (v-h) 0;have k:=lt_mul (c:=m) O9 1 (v-h);rw[Int.mul_zero]at g;rw[Int.mul_one]at k;omega
 refine⟨Int.mul_pos hA O9,fun s _=>⟨off _,off _⟩,fun s hs a=>?_⟩;have b:s.2.y-s.1.y≠0:=by
  intro e;unfold tK jO bk at a;simp only at a;have:s.2.y=s.1.y:=O9;rw[this]at a;omega
 obtain⟨E,d⟩:=hdiv s hs b;have f:A/(s.2.y-s.1.y)=E:=by rw[d];exact Int.mul_ediv_cancel_left _ b
 unfold tK jO bk at a;simp only at a;have ex:xs A m h s=A*m*s.1.x+(s.2.x-s.1.x)*E*(m*(h-s.1.y)+1):=by unfold xs;rw[f]
 rcases a with⟨i,j⟩|⟨i,j⟩
 ·refine⟨A*m*s.2.y-A*(m*h+1),A*(m*h+1)-A*m*s.1.y,O9,O9,?_,?_⟩
  ·simp only[sc,ex];generalize s.1.x=ax at*;generalize s.2.x=bx at*;generalize s.1.y=ay at*;generalize s.2.y=l at*;clear i j ex f hdiv off;rw[d];grind
  ·simp only[sc];grind
 ·refine⟨A*(m*h+1)-A*m*s.2.y,A*m*s.1.y-A*(m*h+1),O9,O9,?_,?_⟩
  ·simp only[sc,ex];generalize s.1.x=ax at*;generalize s.2.x=bx at*;generalize s.1.y=ay at*;generalize s.2.y=l at*;clear i j ex f hdiv off;rw[d];grind
  ·simp only[sc];grind
theorem Hx(D:List Dart)(h:Int):Lv D (jw D*2) (jw D*(2*h+1)) (xs (jw D) 2 h):=AI D (jw D) 2 h (kL D) O9 fun _ hs a=>ql hs a
theorem Hy(A:Int)(hA:0<A)(h:Int)(s:Dart):jO (A*2) (A*(2*h+1)) s↔s.1.y≤h∧h<s.2.y:=by
 unfold jO;rw[Int.mul_assoc,Int.mul_assoc];have g1:=lt_mul hA (2*s.1.y) (2*h+1);have g2:=lt_mul hA (2*h+1) (2*s.2.y);omega
def ko(D L:List Dart):Prop:=(∀t∈L,t∈D)∧da L
structure Flat(D:List Dart)(h:Dart→Int):Prop where
 back:∀s∈D,h (bk s)=h s
 same:∀s∈D,∀t∈D,(∀L,ko D L→F L s=F L t)→h s=h t
theorem BN{D:List Dart}(b:Gr D){h:Dart→Int}(i:Flat D h){c y:Int}{X:Dart→Int}(e:Lv D c y X)(B:Int)(j:∀s∈D,X s≤B):∀(n:Nat)(s:Dart),s∈D→jO c y (bk s)→(B-X s).toNat≤n→∃r∈D,(∀L,ko D L→F L r=0)∧h s=h r:=by
 intro n;induction n with
 |zero=>
  intro s hs f k;rcases e.next b (X s)with⟨_,g⟩|⟨t,d,hu,hx,_,_⟩
  ·exact⟨s,hs,fun L a=>by rw[←e.down b a.1 a.2 hs f];exact g L a.1 a.2,rfl⟩
  ·have:=j t d;omega
 |succ n l=>
  intro s hs f k;rcases e.next b (X s)with⟨_,g⟩|⟨t,d,hu,hx,_,m⟩
  ·exact⟨s,hs,fun L a=>by rw[←e.down b a.1 a.2 hs f];exact g L a.1 a.2,rfl⟩
  ·have hb:=e.xbk b d (.inl hu);have:=j t d;obtain⟨r,hr,o,p⟩:=l (bk t) (b.back t d) hu O9;refine⟨r,hr,o,?_⟩;rw[←p,i.back t d];exact i.same s hs t d fun L a=>by rw[←e.down b a.1 a.2 hs f,m L a.1 a.2]
theorem ou{α:Type}(f:α→Int)(l:List α):∃B,∀a∈l,f a≤B:=by
 induction l with
 |nil=>exact⟨0,fun a ha=>by cases ha⟩
 |cons b l c=>
  obtain⟨B,d⟩:=c;refine⟨if f b≤B then B else f b,fun a ha=>?_⟩;rcases List.mem_cons.1 ha with rfl|ha
  ·split<;>omega
  ·have:=d a ha;split<;>omega
theorem rW{D:List Dart}(b:Gr D){h:Dart→Int}(c:Flat D h){s:Dart}(hs:s∈D)(hy:s.1.y≠s.2.y):∃r∈D,(∀L,ko D L→F L r=0)∧h s=h r:=by
 have down:∀s∈D,s.2.y<s.1.y→∃r∈D,(∀L,ko D L→F L r=0)∧h s=h r:=fun s hs a=>by
  obtain⟨B,d⟩:=ou (xs (jw D) 2 s.2.y) D;exact BN b c (Hx D s.2.y) B d _ s hs ((Hy _ (kL D) _ _).2 ⟨Int.le_refl _,a⟩) (Nat.le_refl _)
 rcases Int.lt_or_gt_of_ne hy with g|g
 ·rw[←c.back s hs];exact down _ (b.back s hs) g
 ·exact down s hs g
theorem BO{D:List Dart}(a:Gr D){s t:Dart}(hs:s∈D)(b:t∈D)(e:s.1.y=s.2.y)(hx:s.1.x<s.2.x):Ig (sc 2 t.1) (sc 2 t.2) (tH s):=by
 intro f;have hw:=a.wap hs b;have m:=lG s;have h:(1+1)*ae (sc 2 t.1) (sc 2 t.2) (tH s)=1*(4*ae t.1 t.2 s.1)+1*(4*ae t.1 t.2 s.2):=by
  rw[m.crs,qg,qg];omega
 rw[f]at h;have c:∀v:Pt,ae s.1 s.2 v=(s.2.x-s.1.x)*(v.y-s.1.y):=fun v=>by unfold ae;rw[←e];grind
 have g:∀v:Pt,(0<ae s.1 s.2 v↔s.1.y<v.y)∧(ae s.1 s.2 v<0↔v.y<s.1.y)∧(ae s.1 s.2 v=0↔v.y=s.1.y):=fun v=>by
  rw[c v,Int.mul_comm];have:=kF (d:=s.2.x-s.1.x) O9 (v.y-s.1.y);omega
 have g1:=g t.1;have g2:=g t.2;unfold wap at hw;have ey:∀v:Pt,(sc 2 v).y=2*v.y:=fun _=>rfl;have em:(tH s).y=2*s.1.y:=by unfold tH;simp only;omega
 rw[ey,ey,em];omega
theorem qm{D:List Dart}(g:Gr D){s:Dart}(hs:s∈D)(hy:s.1.y=s.2.y)(hx:s.1.x<s.2.x):(∀L,ko D L→F L s=0)∨∃u∈D,u.1.y≠u.2.y∧∀L,ko D L→F L s=F L u:=by
 have l:kk s.1 s.2=0:=by unfold kk;rw[if_neg O9]
 have two:(0:Int)<2:=O9;have h:=g.sc two;have hA:=kL (fI 2 D);have hm:=vs (fI 2 D);have n:=AI (fI 2 D) (jw (fI 2 D)) (rz (fI 2 D)) (tH s).y hA hm fun _ hs o=>ql hs o;have hw:∀t∈fI 2 D,t.2.x-t.1.x<rz (fI 2 D)∧ -rz (fI 2 D)<t.2.x-t.1.x:=fun t b=>Gx b;generalize jw (fI 2 D)=A at*;generalize rz (fI 2 D)=m at*;have hF:∀L,ko D L→F L s=wd (fI (A*m) (fI 2 L)) (lift A m (tH s)):=fun L a=>by
  unfold F;rw[l];unfold wd;rw[show fI (A*m) (fI 2 L)=(fI 2 L).map (jv (A*m))from rfl,dq,Int.zero_mul,Int.add_zero];refine aR fun t b=>?_;have d:=lH (c:=2) a.1 t b;obtain⟨w1,p⟩:=hw t d;refine(D8 hA _ _ _ hm w1 p ?_).symm;obtain⟨u,hu,rfl⟩:=List.mem_map.1 d;exact BO g hs hu hy hx
 have i:∀L,ko D L→∀t∈D,F (fI 2 L) (jv 2 t)=F L t:=fun L a t b=>by
  have:=Ir g a.1 a.2 b (c:=4) O9 (q:=sc 2 (tH t)) (m:=1) (k:=1) (by
   have:=ya (lG t) 2;(have e:∀v:Pt,sc 2 (sc 2 v)=sc 4 v:=fun v=>by simp only[sc,Pt.mk.injEq];omega);rw[e,e]at this;exact this)
  rw[←this];unfold F;rw[Ei two];have r:tH (jv 2 t)=sc 2 (tH t):=by unfold tH jv sc;simp only[Pt.mk.injEq];omega
  have w:fI 2 (fI 2 L)=fI 4 L:=by
   unfold fI;rw[List.map_map];refine List.map_congr_left fun u _=>?_;simp only[Function.comp,jv,sc,Prod.mk.injEq,Pt.mk.injEq];omega
  rw[r,w];have:=Ag two t.1 t.2;unfold jv;simp only;rw[this]
 rcases n.next h (lift A m (tH s)).x with⟨_,z⟩|⟨t,b,hu,_,_,B⟩
 ·refine .inl fun L a=>?_;rw[hF L a];exact z _ (lH a.1) (a.2.sc 2)
 ·obtain⟨u,f,rfl⟩:=List.mem_map.1 b;have j:u.1.y≠u.2.y:=by
   intro e;unfold jO jv sc at hu;simp only[e]at hu;omega
  refine .inr ⟨u,f,j,fun L a=>?_⟩;rw[hF L a,←i L a u f];exact B _ (lH a.1) (a.2.sc 2)
theorem iB{D:List Dart}(a:Gr D){h:Dart→Int}(c:Flat D h){s:Dart}(hs:s∈D):∃r∈D,(∀L,ko D L→F L r=0)∧h s=h r:=by
 by_cases hy:s.1.y=s.2.y
 ·have right:∀s∈D,s.1.y=s.2.y→s.1.x<s.2.x→∃r∈D,(∀L,ko D L→F L r=0)∧h s=h r:=fun s hs hy hx=>by
   rcases qm a hs hy hx with d|⟨u,hu,b,e⟩
   ·exact⟨s,hs,d,rfl⟩
   ·obtain⟨r,hr,f,i⟩:=rW a c hu b;exact⟨r,hr,f,(c.same s hs u hu e).trans i⟩
  have b:=pt_ne (a.ne s hs);rcases Int.lt_or_gt_of_ne (show s.1.x≠s.2.x by omega)with g|g
  ·exact right s hs hy g
  ·rw[←c.back s hs];exact right _ (a.back s hs) hy.symm g
 ·exact rW a c hs hy
end Go.Proofs.Pf
namespace Go.Proofs.Pri
open Go.Proofs.Pg
theorem AJ(M X e:Int)(h:0≤X+M)(n:Nat):sm (fun t=>if (t:Int)-M<X then e else 0) 0 n=if (n:Int)≤X+M then e*n else e*(X+M):=by
 induction n with
 |zero=>rw[if_pos O9];simp[sm]
 |succ n a=>
  have b:((n+1:Nat):Int)=(n:Int)+1:=by push_cast;rfl
  rw[tB,a,Nat.zero_add,b];by_cases g:(n:Int)+1≤X+M
  ·rw[if_pos (by omega:(n:Int)≤X+M),if_pos (by omega:(n:Int)-M<X),if_pos g];grind
  ·rw[if_neg (by omega:¬(n:Int)-M<X),if_neg g];by_cases g2:(n:Int)≤X+M
   ·(have:(n:Int)=X+M:=by omega);rw[if_pos g2,this];omega
   ·rw[if_neg g2];omega
def dir(P:Nat→Pt)(y:Int)(j:Nat):Int:=if (P j).y<y∧y<(P (j+1)).y then 1 else if (P (j+1)).y<y∧y<(P j).y then-1 else 0
theorem Gy(P:Nat→Pt)(y:Int)(h:∀i,(P i).y≠y)(i m:Nat):sm (dir P y) i m=(if y<(P (i+m)).y then 1 else 0)-(if y<(P i).y then 1 else 0):=by
 induction m with
 |zero=>simp[sm]
 |succ m d=>
  rw[tB,d,show i+(m+1)=i+m+1 from by omega];have e:=h (i+m);have f:=h (i+m+1);unfold dir;generalize (P (i+m)).y=a at*;generalize (P (i+m+1)).y=b at*;generalize (P i).y=c at*;by_cases g1:y<a<;>by_cases g2:y<b<;>simp only[g1,g2,if_true,if_false,and_true,and_false]<;>(repeat' split)<;>omega
theorem level_sum{P:Nat→Pt}{n:Nat}(h:Poly P n){y:Int}{X:Nat→Int}(b:Level P n y X)(M:Nat)(e:∀j,j<n→ -(M:Int)≤X j∧X j≤M):sm (Hv P X y) 0 n=sm (fun t=>JJ P n ⟨(t:Int)-M,y⟩) 0 (2*M):=by
 unfold JJ;rw[Gp (fun t j=>chi (P j) (P (j+1)) ⟨((t:Nat):Int)-M,y⟩)];have key:∀j,0≤j→j<0+n→(fun j=>sm (fun t:Nat=>chi (P j) (P (j+1)) ⟨(t:Int)-M,y⟩) 0 (2*M)) j=(fun j=>Hv P X y j+dir P y j*M) j:=fun j _ hj=>by
  obtain⟨m1,m2⟩:=e j O9;show sm (fun t:Nat=>chi (P j) (P (j+1)) ⟨(t:Int)-M,y⟩) 0 (2*M)=Hv P X y j+dir P y j*M;by_cases a:ry P y j
  ·rw[iu (fun t:Nat=>chi (P j) (P (j+1)) ⟨(t:Int)-M,y⟩) (fun t:Nat=>if (t:Int)-M<X j then (if (P j).y<y then 1 else-1)else 0) 0 (2*M) (fun t _ _=>by
    rw[uT b j];by_cases g:(t:Int)-M<X j
    ·rw[if_pos ⟨a,g⟩,if_pos g]
    ·rw[if_neg (fun c=>g c.2),if_neg g]),AJ M (X j) _ O9]
   (have f:((2*M:Nat):Int)=2*(M:Int):=by push_cast;rfl);have i:(if ((2*M:Nat):Int)≤X j+M then (if (P j).y<y then (1:Int)else-1)*((2*M:Nat):Int)else (if (P j).y<y then (1:Int)else-1)*(X j+M))=(if (P j).y<y then (1:Int)else-1)*(X j+M):=by
    by_cases g:((2*M:Nat):Int)≤X j+M
    ·rw[if_pos g,f];have:X j=M:=O9;rw[this,show(2:Int)*M=M+M from by omega]
    ·rw[if_neg g]
   rw[i];unfold Hv dir;unfold ry at a;rcases a with⟨g1,g2⟩|⟨g1,g2⟩
   ·rw[if_pos g1,if_pos ⟨g1,g2⟩,if_pos ⟨g1,g2⟩];omega
   ·rw[if_neg (by omega:¬(P j).y<y),if_neg (by omega:¬((P j).y<y∧y<(P (j+1)).y)),if_pos ⟨g1,g2⟩,if_neg (by omega:¬((P j).y<y∧y<(P (j+1)).y)),if_pos ⟨g1,g2⟩];omega
  ·rw[mZ (fun t:Nat=>chi (P j) (P (j+1)) ⟨(t:Int)-M,y⟩) 0 (2*M) (fun t _ _=>by rw[uT b j,if_neg (fun c=>a c.1)])];unfold Hv dir;unfold ry at a;rw[if_neg (by omega:¬((P j).y<y∧y<(P (j+1)).y)),if_neg (by omega:¬((P (j+1)).y<y∧y<(P j).y)),if_neg (by omega:¬((P j).y<y∧y<(P (j+1)).y)),if_neg (by omega:¬((P (j+1)).y<y∧y<(P j).y))];omega
 have d:=Gy P y b.off 0 n;rw[h.per]at d;rw[iu _ _ 0 n key,tF,Gn,d,Int.sub_self];omega
end Go.Proofs.Pri
namespace Go.Proofs.Pf
open Go.Proofs.Pg Go.Proofs.Pri
def tw(L:List Dart):Int:=sl (fun s=>s.1.x*s.2.y-s.2.x*s.1.y) L
theorem Ix(L M:List Dart):tw (L++M)=tw L+tw M:=fi _ _ _
theorem tL(L:List Dart):tw (L.map bk)= -tw L:=by
 unfold tw;rw[dq,←js];exact aR fun s _=>by unfold bk;simp only;grind
theorem Gz{L:List Dart}(h:da L):tw L=sl (fun s=>(s.1.x+s.2.x)*(s.2.y-s.1.y)) L:=by
 have a:=h fun p=>p.x*p.y;unfold tw;have:sl (fun s:Dart=>(s.1.x+s.2.x)*(s.2.y-s.1.y)) L=sl (fun s=>(s.1.x*s.2.y-s.2.x*s.1.y)+(s.2.x*s.2.y-s.1.x*s.1.y)) L:=aR fun s _=>by grind
 rw[this,mA,a];omega
def DJ(c y:Int)(X:Dart→Int)(s:Dart):Int:=if jO c y s then X s else if jO c y (bk s)then-X s else 0
def Eo(c y:Int)(s:Dart):Int:=if jO c y s then 1 else if jO c y (bk s)then-1 else 0
theorem GA{D L:List Dart}{c y:Int}{X:Dart→Int}(b:Lv D c y X)(a:ko D L):sl (Eo c y) L=0:=by
 rw[←a.2 fun p=>if y<c*p.y then 1 else 0];refine aR fun s hs=>?_;have:=b.off s (a.1 s hs);unfold Eo jO bk;simp only
 (repeat' split)<;>omega
theorem level_sum{D L:List Dart}{c y:Int}{X:Dart→Int}(a:Lv D c y X)(b:ko D L)(M:Nat)(f:∀s∈D,-(M:Int)≤X s∧X s≤M):sl (DJ c y X) L=sm (fun t=>wd (fI c L) ⟨(t:Int)-M,y⟩) 0 (2*M):=by
 have key:∀(K:List Dart),(∀s∈K,s∈D)→sm (fun t:Nat=>wd (fI c K) ⟨(t:Int)-M,y⟩) 0 (2*M)=sl (fun s=>DJ c y X s+M*Eo c y s) K:=by
  intro K;induction K with
  |nil=>intro _;exact mZ _ _ _ fun _ _ _=>rfl
  |cons s K h=>
   intro d;have hs:=d s (List.mem_cons_self ..);obtain⟨m1,m2⟩:=f s hs;rw[aV,←h fun t i=>d t (List.mem_cons_of_mem _ i)];have e:∀t:Nat,wd (fI c (s::K)) ⟨(t:Int)-M,y⟩=(if (t:Int)-M<X s then Eo c y s else 0)+wd (fI c K) ⟨(t:Int)-M,y⟩:=fun t=>by
    have:=a.chi hs ((t:Int)-M);unfold wd fI;rw[List.map_cons,aV];unfold jv Eo at*;simp only;rw[this]
   rw[iu _ _ 0 (2*M) (fun t _ _=>e t),tF,AJ M (X s) _ O9];(have j:((2*M:Nat):Int)=2*(M:Int):=by push_cast;rfl);have k:(if ((2*M:Nat):Int)≤X s+M then Eo c y s*((2*M:Nat):Int)else Eo c y s*(X s+M))=Eo c y s*(X s+M):=by
    by_cases g:((2*M:Nat):Int)≤X s+M
    ·rw[if_pos g,j];have:X s=M:=O9;rw[this,show(2:Int)*M=M+M from by omega]
    ·rw[if_neg g]
   rw[k];have:Eo c y s*(X s+M)=DJ c y X s+M*Eo c y s:=by
    unfold Eo DJ
    (repeat' split)<;>omega
   rw[this]
 rw[key L b.1,mA,iA,GA a b];omega
theorem vt{D L:List Dart}(b:ko D L)(B:Nat)(d:∀s∈D,-(B:Int)≤s.1.y∧s.1.y≤B∧ -(B:Int)≤s.2.y∧s.2.y≤B):jw D*tw L=sm (fun t:Nat=>sl (DJ (jw D*2) (jw D*(2*((t:Int)-B)+1)) (xs (jw D) 2 ((t:Int)-B))) L) 0 (2*B):=by
 rw[Gz b.2,←iA];have hA:=kL D;have a:∀s∈D,s.2.y-s.1.y≠0→(s.2.y-s.1.y)∣jw D:=fun s hs=>ql hs;generalize jw D=A at*;have key:∀(K:List Dart),(∀s∈K,s∈D)→sl (fun s=>A*((s.1.x+s.2.x)*(s.2.y-s.1.y))) K=sm (fun t:Nat=>sl (DJ (A*2) (A*(2*((t:Int)-B)+1)) (xs A 2 ((t:Int)-B))) K) 0 (2*B):=by
  intro K;induction K with
  |nil=>intro _;exact(mZ _ _ _ fun _ _ _=>rfl).symm
  |cons s K e=>
   intro c;have hs:=c s (List.mem_cons_self ..);obtain⟨b1,b2,f,h⟩:=d s hs;rw[aV,e fun t g=>c t (List.mem_cons_of_mem _ g)];rw[iu (fun t:Nat=>sl (DJ (A*2) (A*(2*((t:Int)-B)+1)) (xs A 2 ((t:Int)-B))) (s::K)) (fun t:Nat=>DJ (A*2) (A*(2*((t:Int)-B)+1)) (xs A 2 ((t:Int)-B)) s+sl (DJ (A*2) (A*(2*((t:Int)-B)+1)) (xs A 2 ((t:Int)-B))) K) 0 (2*B) (fun _ _ _=>rfl),tF];congr 1
   have:=BL (fun i=>if i=0 then s.1 else s.2) A B (2*B) 0 hA (by simpa using a s hs) (by simpa using b1) (by simpa using f) (by simp;omega) (by simp;omega);simp only[if_true,show(0+1=0)=False from by simp,if_false]at this;rw[←this];refine iu _ _ _ _ fun t _ _=>?_;unfold Hv DJ jO bk Ju xs;simp only[sc,if_true,show(0+1=0)=False from by simp,if_false]
 exact key L b.1
theorem BP{D L:List Dart}(b:Gr D)(a:ko D L)(hF:∀s∈D,0≤F L s){c y:Int}{X:Dart→Int}(d:Lv D c y X)(x:Int):0≤wd (fI c L) ⟨x,y⟩:=by
 rcases d.next b x with⟨_,e⟩|⟨t,f,_,_,_,g⟩
 ·rw[e L a.1 a.2];omega
 ·rw[g L a.1 a.2];exact hF t f
theorem AK{α:Type}(f:α→Int)(l:List α):∃B:Nat,∀a∈l,-(B:Int)≤f a∧f a≤B:=by
 obtain⟨b,c⟩:=ou f l;obtain⟨d,e⟩:=ou (fun a=> -f a) l;refine⟨b.natAbs+d.natAbs,fun a ha=>?_⟩;have:=c a ha;have:=e a ha;omega
theorem tM{D L:List Dart}(j:Gr D)(g:ko D L)(hF:∀s∈D,0≤F L s){c y:Int}{X:Dart→Int}(h:Lv D c y X):0≤sl (DJ c y X) L∧((∃s∈D,tK c y s∧0<F L s)→0<sl (DJ c y X) L):=by
 obtain⟨d,i⟩:=AK X D;have hs:=level_sum h g (d+1) (fun s hs=>by have:=i s hs;push_cast;omega);rw[hs];have o:=fun(k:Nat)(_:0≤k)(_:k<0+2*(d+1))=>BP j g hF h ((k:Int)-(d+1:Nat));obtain⟨g1,g2⟩:=rQ _ _ _ o;refine⟨g1,fun⟨s,a,p,hp⟩=>?_⟩;have b:=i s a;obtain⟨x,q,r,u⟩:∃x:Int,-(d:Int)-1≤x∧x≤d∧wd (fI c L) ⟨x,y⟩=F L s:=by
  rcases p with hu|v
  ·refine⟨X s-1,O9,O9,?_⟩;rcases h.next j (X s-1)with⟨w,_⟩|⟨t,l,f,z,m,A⟩
   ·have:=w s a hu;omega
   ·have C:=m s a hu O9;have B:X s=X t:=O9;rcases h.apart j a l (.inl hu) (.inl f) B with e|e
    ·rw[A L g.1 g.2,e]
    ·rw[e]at f;exact absurd f (En hu)
  ·exact⟨X s,O9,O9,h.down j g.1 g.2 a v⟩
 obtain⟨t,l⟩:∃t:Nat,(t:Int)=x+(d+1:Nat):=⟨(x+(d+1:Nat)).toNat,by push_cast;omega⟩;have n:(t:Int)-(d+1:Nat)=x:=O9;have:=g2 t O9 (by push_cast at l;omega);simp only[n]at this;omega
theorem Ep{D L:List Dart}(c:Gr D)(d:ko D L)(hF:∀s∈D,0≤F L s):0≤tw L∧((∃s∈D,s.1.y≠s.2.y∧0<F L s)→0<tw L):=by
 obtain⟨a,b⟩:=AK (fun s:Dart=>s.1.y) D;have e:∀s∈D,-(a:Int)≤s.1.y∧s.1.y≤a∧ -(a:Int)≤s.2.y∧s.2.y≤a:=fun s hs=>by
  have:=b s hs;have:=b _ (c.back s hs);simp only[bk]at this;omega
 have ha:=vt d a e;have hA:=kL D;have f:=fun t:Nat=>tM c d hF (Hx D ((t:Int)-a));obtain⟨g1,g2⟩:=rQ _ 0 (2*a) (fun t _ _=>(f t).1);rw[←ha]at g1 g2;refine⟨?_,fun⟨s,hs,hy,hp⟩=>?_⟩
 ·rcases Int.lt_or_le (tw L) 0 with h|h
  ·have:=Int.mul_neg_of_pos_of_neg hA h;omega
  ·exact h
 ·obtain⟨b1,b2,j,k⟩:=e s hs;obtain⟨t,l,i⟩:∃t:Nat,t<2*a∧tK (jw D*2) (jw D*(2*((t:Int)-a)+1)) s:=by
   unfold tK;simp only[Hy _ hA,bk];rcases Int.lt_or_gt_of_ne hy with g|g
   ·exact⟨(s.1.y+a).toNat,O9,.inl O9⟩
   ·exact⟨(s.2.y+a).toNat,O9,.inr O9⟩
  have b:=(f t).2 ⟨s,hs,i,hp⟩;have m:=g2 t O9 O9;exact(tC hA _).1.1 O9
