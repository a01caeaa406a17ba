/-
  The plain laws of layer 14 (face).
-/
import Derived.Test.YtfkgjbdeicggaaaGreatZG
import Derived.Test.YtfkgjbdeicggaaaGreatZJ
namespace Go.Proofs.Pf
open Go Go.Proofs.Pg Go.Proofs.Px Go.Proofs.Pn Go.Proofs.Pto
def aQ(l:List Ob)(p:Pr):Dart:=(ar l p.1,ar l p.2)
def oN(l:List Ob):List Dart:=(af l).map (aQ l)
def cw(l:List Ob):List Dart:=oN l++(oN l).map bk
theorem qE:∀(r seen:List BA)(last:BA),dX 3 seen last r=true→r.Nodup∧∀s∈r,s∉seen
 | [],_,_,_=>⟨List.nodup_nil,fun _ h=>by cases h⟩
 |s::r,seen,last,h=>by
  unfold dX jV at h;simp only[Bool.and_eq_true,Bool.not_eq_true',Bool.or_eq_false_iff]at h;obtain⟨⟨⟨_,b⟩,_⟩,d⟩:=h;have hs:s∉seen:=fun hm=>by
   simp at b;have:=(fW _ _).2 hm;rw[b]at this;cases this
  obtain⟨e,c⟩:=qE r (s::seen) s d;refine⟨List.nodup_cons.2 ⟨fun hm=>c s hm (List.mem_cons_self ..),e⟩,fun t a=>?_⟩;rcases List.mem_cons.1 a with rfl|a
  ·exact hs
  ·exact fun hm=>c t a (List.mem_cons_of_mem _ hm)
theorem qF:∀(r seen:List BA)(last:BA),dX 2 seen last r=true→(∀s,r[0]? =some s→s≠last)∧∀i s t,r[i]? =some s→r[i+1]? =some t→s≠t
 | [],_,_,_=>⟨fun s h=>(by cases h),fun i s t h=>(by simp at h)⟩
 |a::r,seen,last,h=>by
  unfold dX jV at h;simp only[Bool.and_eq_true,Bool.not_eq_true',Bool.or_eq_false_iff]at h;obtain⟨⟨⟨c,_⟩,_⟩,d⟩:=h;obtain⟨f,g⟩:=qF r (a::seen) a d;refine⟨fun s hs e=>?_,fun i s t hs b=>?_⟩
  ·simp at hs;subst hs;subst e;simp at c
  ·cases i with
   |zero=>
    simp at hs b;subst hs;exact fun e=>f t (by simpa using b) e.symm
   |succ i=>exact g i s t (by simpa using hs) (by simpa using b)
theorem GM{o:Ob}(a:lJ o=true){i:Nat}(hi:i<br o):(sideAt o i).1≠(sideAt o i).2:=by
 have d:=ij a;unfold lJ at a;simp only[Bool.and_eq_true]at a;have hr:=a.1.2;unfold br at hi;unfold sideAt;simp only[List.getD_eq_getElem?_getD];by_cases b:o.kind=3
 ·rw[if_pos b]at hi;rw[b]at hr d;have f:=(qE _ _ _ hr).1;have h:3≤o.refs.length:=d;have hj:=Nat.mod_lt (i+1) (show 0<o.refs.length by omega);rw[List.getElem?_eq_getElem hi,List.getElem?_eq_getElem hj,Option.getD_some,Option.getD_some];intro e;have:=(List.getElem_inj f).1 e;by_cases g:i+1=o.refs.length
  ·rw[g,Nat.mod_self]at this;omega
  ·rw[Nat.mod_eq_of_lt O9]at this;omega
 ·rw[if_neg b]at hi;by_cases c:o.kind=2
  ·rw[if_pos c]at hi;rw[c]at hr;rw[Nat.mod_eq_of_lt O9,List.getElem?_eq_getElem (show i<o.refs.length by omega),List.getElem?_eq_getElem (show i+1<o.refs.length by omega),Option.getD_some,Option.getD_some];exact(qF _ _ _ hr).2 i _ _ (List.getElem?_eq_getElem _) (List.getElem?_eq_getElem _)
  ·rw[if_neg c]at hi;omega
theorem GN{p:Pr}(h:p.1≠p.2):fK (bC p).1 (bC p).2=true:=by
 unfold bC ck eu;simp only;cases e:fK p.2 p.1 with
 |true=>
  have:fK p.1 p.2=false:=by
   cases a:fK p.1 p.2 with
   |false=>rfl
   |true=>have:=dg e a;rw[bj]at this;cases this
  simp[this,e]
 |false=>
  have:=gL e (fun e=>h e.symm);simp[this]
theorem lN{l:List Ob}(hm:aZ l=true){p:Pr}(h:p∈af l):fK p.1 p.2=true:=by
 rw[df,fX,List.mem_flatMap]at h;obtain⟨o,a,h⟩:=h;unfold bU at h;split at h
 ·rw[bw,List.mem_map]at h;obtain⟨i,hi,rfl⟩:=h;exact GN (GM (iD hm o a) (List.mem_range.1 hi))
 ·cases h
theorem lO{l:List Ob}(hm:aZ l=true){p:Pr}(h:p∈af l):p.1≠p.2:=fun e=>by
 have:=lN hm h;rw[e,bj]at this;cases this
section
variable {l:List Ob}
theorem jY(a:¬dA l){p q:Pr}(hp:p∈af l)(b:q∈af l){s t:BA}(c:fj p s)(d:fj q t)(e:ar l s=ar l t):s=t:=by
 by_cases g:s=t
 ·exact g
 ·exact absurd (.inl ⟨p,hp,q,b,s,t,c,d,g,e⟩) a
theorem mF(l:List Ob):(af l).Nodup:=(iF l).imp fun h e=>by rw[e]at h;exact jW _ h
theorem qG(e:¬dA l){p q:Pr}(hp:p∈af l)(f:q∈af l)(c:p≠q):meets (cF l p) (cF l q)=0∨meets (cF l p) (cF l q)=1:=by
 obtain⟨i,hi,h⟩:=List.mem_iff_getElem.1 hp;obtain⟨k,j,m⟩:=List.mem_iff_getElem.1 f;have a:(af l)[i]? =some p:=by rw[List.getElem?_eq_getElem hi,h]
 have b:(af l)[k]? =some q:=by rw[List.getElem?_eq_getElem j,m]
 have key:∀(i k:Nat)(a b:Pr),i<k→(af l)[i]? =some a→(af l)[k]? =some b→meets (cF l a) (cF l b)=0∨meets (cF l a) (cF l b)=1:=fun i k a b d ha hb=>by
  by_cases g0:meets (cF l a) (cF l b)=0
  ·exact .inl g0
  ·by_cases g1:meets (cF l a) (cF l b)=1
   ·exact .inr g1
   ·exact absurd (.inr ⟨i,k,a,b,d,ha,hb,g0,g1⟩) e
 rcases Nat.lt_trichotomy i k with g|g|g
 ·exact key i k p q g a b
 ·subst g;rw[a]at b;exact absurd (Option.some.inj b) c
 ·rw[cY];exact key k i q p g b a
theorem ia{s:Dart}(h:s∈cw l):∃p∈af l,s=aQ l p∨s=bk (aQ l p):=by
 rcases List.mem_append.1 h with h|h
 ·obtain⟨p,hp,rfl⟩:=List.mem_map.1 h;exact⟨p,hp,.inl rfl⟩
 ·obtain⟨e,he,rfl⟩:=List.mem_map.1 h;obtain⟨p,hp,rfl⟩:=List.mem_map.1 he;exact⟨p,hp,.inr rfl⟩
theorem vQ{p:Pr}(h:p∈af l):aQ l p∈cw l∧bk (aQ l p)∈cw l:=
 ⟨List.mem_append_left _ (List.mem_map.2 ⟨p,h,rfl⟩),List.mem_append_right _ (List.mem_map.2 ⟨_,List.mem_map.2 ⟨p,h,rfl⟩,rfl⟩)⟩
theorem mG{p q:Pr}{s t:Dart}(hs:s=aQ l p∨s=bk (aQ l p))(a:t=aQ l q∨t=bk (aQ l q)):meets ⟨s.1,s.2⟩ ⟨t.1,t.2⟩=meets (cF l p) (cF l q):=by
 rcases hs with rfl|rfl<;>rcases a with rfl|rfl
 ·rfl
 ·exact oZ (cF l p) (cF l q)
 ·exact mw (cF l p) (cF l q)
 ·exact(mw (cF l p) _).trans (oZ (cF l p) (cF l q))
theorem lP(hm:aZ l=true){s:BA}(h:isNode l s=true):aF (ar l s)=true:=by
 have:=gF hm h;rw[fF];omega
theorem gG(hm:aZ l=true){s:Dart}(h:s∈cw l):aF s.1=true∧aF s.2=true:=by
 obtain⟨p,hp,e⟩:=ia h;obtain⟨a,b⟩:=dG hp;rcases e with rfl|rfl
 ·exact⟨lP hm a,lP hm b⟩
 ·exact⟨lP hm b,lP hm a⟩
theorem qH(hm:aZ l=true)(r:¬dA l):Gr (cw l):=by
 have a:∀s∈cw l,s.1≠s.2:=fun s hs=>by
  obtain⟨p,hp,e⟩:=ia hs;have key:ar l p.1≠ar l p.2:=fun e=>lO hm hp (jY r hp hp (.inl rfl) (.inr rfl) e);rcases e with rfl|rfl
  ·exact key
  ·exact fun e=>key e.symm
 refine⟨a,fun s hs=>?_,fun s hs t c j m=>?_,fun s hs t c j m A B=>?_⟩
 ·obtain⟨p,hp,e⟩:=ia hs;rcases e with rfl|rfl
  ·exact(vQ hp).2
  ·exact(vQ hp).1
 ·obtain⟨p,hp,es⟩:=ia hs;obtain⟨q,w,n⟩:=ia c;have d:=a s hs;have f:p≠q:=fun e=>by
   subst e;have h:t=s∨t=bk s:=by
    rcases es with rfl|rfl<;>rcases n with rfl|rfl<;>simp[kK]
   rcases h with rfl|rfl
   ·exact d j.symm
   ·exact m rfl
  obtain⟨k,i⟩:=gG hm hs;obtain⟨y,o⟩:=gG hm c;have b:=qG r hp w f;rw[←mG es n]at b;obtain⟨u,v⟩:=s;obtain⟨D,x⟩:=t;simp only at j m d k i y o b;subst j;have hx:v≠x:=a _ c;have z:=iy ⟨u,v⟩ ⟨v,x⟩ (by rw[Pri.near4'];exact⟨k,i,i,o⟩);have he:endsB ⟨u,v⟩ ⟨v,x⟩=true:=by
   unfold endsB;rw[(Pri.on_end u v k i).2];simp
  have C:=(z.ends.1 he).1;exact Pri.end_corner u v x d hx k i o (b.resolve_left C)
 ·obtain⟨p,hp,es⟩:=ia hs;obtain⟨q,w,n⟩:=ia c;have f:p≠q:=fun e=>by
   subst e;have h:t=s∨t=bk s:=by
    rcases es with rfl|rfl<;>rcases n with rfl|rfl<;>simp[kK]
   rcases h with rfl|rfl
   ·exact j rfl
   ·exact m rfl
  obtain⟨k,i⟩:=gG hm hs;obtain⟨y,o⟩:=gG hm c;have b:=qG r hp w f;rw[←mG es n]at b;rcases b with b|b
  ·exact Pri.none_apart _ _ _ _ (a s hs) (a t c) k i y o b
  ·have:=kN b;unfold gO at this;simp only at this;rcases this with g|g|g|g
   ·exact absurd g j
   ·exact absurd g m
   ·exact absurd g A
   ·exact absurd g B
theorem EM(a:¬dA l):(oN l).Nodup:=by
 refine gN (mF l) fun p hp q b e=>?_;have c:=jY a hp b (.inl rfl) (.inl rfl) (Prod.ext_iff.1 e).1;have d:=jY a hp b (.inr rfl) (.inr rfl) (Prod.ext_iff.1 e).2;exact Prod.ext c d
theorem vR(hm:aZ l=true)(a:¬dA l):(cw l).Nodup:=by
 have c:=EM a;refine List.nodup_append.2 ⟨c,gN c fun s _ t _ e=>by rw[←kK s,e];rfl,fun s hs t f e=>?_⟩;obtain⟨p,hp,rfl⟩:=List.mem_map.1 hs;obtain⟨u,hu,rfl⟩:=List.mem_map.1 f;obtain⟨q,b,rfl⟩:=List.mem_map.1 hu;have g:=jY a hp b (.inl rfl) (.inr rfl) (Prod.ext_iff.1 e).1;have h:=jY a hp b (.inr rfl) (.inl rfl) (Prod.ext_iff.1 e).2;have d:=lN hm hp;have i:=lN hm b;rw[g,h]at d;have:=dg d i;rw[bj]at this;cases this
end
abbrev eM:=BA×BA
def swp(s:eM):eM:=(s.2,s.1)
theorem AQ(s:eM):swp (swp s)=s:=rfl
def an(l:List Ob):List eM:=af l++(af l).map swp
theorem bI{l:List Ob}{s:eM}:swp s∈an l↔s∈an l:=by
 have key:∀s:eM,s∈an l→swp s∈an l:=fun s h=>by
  rcases List.mem_append.1 h with h|h
  ·exact List.mem_append_right _ (List.mem_map.2 ⟨s,h,rfl⟩)
  ·obtain⟨t,a,rfl⟩:=List.mem_map.1 h;exact List.mem_append_left _ a
 exact⟨fun h=>key _ h,key s⟩
theorem ev{l:List Ob}{s:eM}:s∈an l↔s∈af l∨swp s∈af l:=by
 unfold an;rw[List.mem_append,List.mem_map];refine or_congr Iff.rfl ⟨?_,fun h=>⟨swp s,h,rfl⟩⟩;rintro⟨t,a,rfl⟩;exact a
theorem eW(l:List Ob):cw l=(an l).map (aQ l):=by
 unfold cw oN an;rw[List.map_append,List.map_map,List.map_map];rfl
theorem ny(l:List Ob)(s:eM):bk (aQ l s)=aQ l (swp s):=rfl
theorem gH{l:List Ob}{s:eM}(h:s∈an l):∃p∈af l,fj p s.1∧fj p s.2:=by
 rcases ev.1 h with h|h
 ·exact⟨s,h,.inl rfl,.inr rfl⟩
 ·exact⟨swp s,h,.inr rfl,.inl rfl⟩
section
variable {l:List Ob}
theorem eX(a:¬dA l){s t:eM}(hs:s∈an l)(c:t∈an l):(ar l s.1=ar l t.1→s.1=t.1)∧(ar l s.2=ar l t.2→s.2=t.2)∧(ar l s.1=ar l t.2→s.1=t.2):=by
 obtain⟨p,hp,a1,a2⟩:=gH hs;obtain⟨q,b,b1,b2⟩:=gH c;exact⟨jY a hp b a1 b1,jY a hp b a2 b2,jY a hp b a1 b2⟩
theorem kV(a:¬dA l){s t:eM}(hs:s∈an l)(b:t∈an l)(e:aQ l s=aQ l t):s=t:=by
 obtain⟨k1,k2,_⟩:=eX a hs b;exact Prod.ext (k1 (Prod.ext_iff.1 e).1) (k2 (Prod.ext_iff.1 e).2)
theorem nz(hm:aZ l=true)(c:¬dA l):(an l).Nodup:=by
 have:=vR hm c;rw[eW]at this;exact List.Pairwise.of_map (aQ l) (fun a b h e=>h (by rw[e])) this
theorem nA(hm:aZ l=true){s:eM}(h:s∈an l):s.1≠s.2:=by
 rcases ev.1 h with h|h
 ·exact lO hm h
 ·exact fun e=>lO hm h e.symm
theorem mH(v a:Pt):¬kq v a a:=by
 rintro(⟨b,c⟩|⟨_,h⟩)
 ·exact b c
 ·have:ae a v a=0:=by unfold ae;grind
  omega
structure kD(l:List Ob)(nb:BA→List BA):Prop where
 mem:∀v w,w∈nb v↔(v,w)∈an l
 srt:∀v,(nb v).Pairwise fun a b=>kq (ar l v) (ar l a) (ar l b)
variable {nb:BA→List BA}
theorem eY{α:Type}{l:List α}(h:l.Nodup){i j:Nat}{hi:i<l.length}{hj:j<l.length}(e:l[i]=l[j]):i=j:=by
 rcases Nat.lt_trichotomy i j with g|g|g
 ·exact absurd e (List.pairwise_iff_getElem.1 h i j hi hj g)
 ·exact g
 ·exact absurd e.symm (List.pairwise_iff_getElem.1 h j i hj hi g)
theorem kD.nd(h:kD l nb)(v:BA):(nb v).Nodup:=(h.srt v).imp fun h e=>by rw[e]at h;exact mH _ _ h
def gw(nb:BA→List BA)(s:eM):eM:=(s.2,(nb s.2).getD (((nb s.2).findIdx (fun x=>decide (x=s.1))+(nb s.2).length-1)%(nb s.2).length) ⟨#[]⟩)
theorem pred_lt{i n:Nat}(h:i<n):(i+n-1)%n=if i=0 then n-1 else i-1:=by
 by_cases e:i=0
 ·subst e;rw[if_pos rfl,Nat.zero_add,Nat.mod_eq_of_lt O9]
 ·rw[if_neg e,show i+n-1=(i-1)+n from by omega,Nat.add_mod_right,Nat.mod_eq_of_lt O9]
theorem kD.place(h:kD l nb){s:eM}(hs:s∈an l):∃i k,∃hi:i<(nb s.2).length,∃a:k<(nb s.2).length,(nb s.2)[i]=s.1∧(k=if i=0 then (nb s.2).length-1 else i-1)∧gw nb s=(s.2,(nb s.2)[k]):=by
 have hm:s.1∈nb s.2:=(h.mem _ _).2 (bI.2 hs);have hi:(nb s.2).findIdx (fun x=>decide (x=s.1))<(nb s.2).length:=List.findIdx_lt_length_of_exists ⟨s.1,hm,decide_eq_true rfl⟩;have a:=pred_lt hi;have b:=Nat.mod_lt ((nb s.2).findIdx (fun x=>decide (x=s.1))+(nb s.2).length-1) (show 0<(nb s.2).length by omega);refine⟨_,_,hi,b,of_decide_eq_true (List.findIdx_getElem (w:=hi)),a,?_⟩;unfold gw;rw[List.getD_eq_getElem?_getD,List.getElem?_eq_getElem b,Option.getD_some]
theorem kD.aft_mem(h:kD l nb){s:eM}(hs:s∈an l):gw nb s∈an l:=by
 obtain⟨i,k,hi,a,c,d,b⟩:=h.place hs;rw[b];exact(h.mem _ _).1 (List.getElem_mem a)
theorem kD.aft_inj(h:kD l nb){s t:eM}(hs:s∈an l)(o:t∈an l)(e:gw nb s=gw nb t):s=t:=by
 obtain⟨i,k,hi,p,g,n,q⟩:=h.place hs;obtain⟨j,m,hj,hm,f1,f2,f3⟩:=h.place o;rw[q,f3]at e;obtain⟨a,b⟩:=s;obtain⟨c,d⟩:=t;obtain⟨g1,g2⟩:=Prod.ext_iff.1 e;simp only at g1 g2 g f1 hi hj p hm n f2;subst g1;have r:=eY (h.nd b) g2;have f:i=j:=by
  split at n<;>split at f2<;>omega
 subst f;rw[←g,←f1]
theorem kD.out(h:kD l nb)(hm:aZ l=true)(u:¬dA l){s:eM}(hs:s∈an l){x:BA}(hx:(s.2,x)∈an l)(v:x≠s.1)(n:x≠(gw nb s).2):(gw nb s).2≠s.1∧Out (ar l s.1) (ar l s.2) (ar l (gw nb s).2) (ar l x):=by
 obtain⟨i,k,hi,d,o,p,y⟩:=h.place hs;have ha:=h.aft_mem hs;obtain⟨j,hj,f1⟩:=List.mem_iff_getElem.1 ((h.mem _ _).2 hx);have far:∀ {w:BA},(s.2,w)∈an l→ar l w≠ar l s.2:=fun hw e=>nA hm hw ((eX u hw hw).2.2 e.symm);have hw:(s.2,(gw nb s).2)∈an l:=ha;have f:=far (bI.2 hs:(s.2,s.1)∈an l);have c:=far hw;have m:=far hx;rw[y]at n c ⊢;simp only at n c ⊢;have q:j≠i:=fun e=>v (by subst e;rw[←f1,o]);have z:j≠k:=fun e=>n (by subst e;rw[f1])
 have lt:∀ {a b:Nat}(ha:a<(nb s.2).length)(hb:b<(nb s.2).length),a<b→kq (ar l s.2) (ar l (nb s.2)[a]) (ar l (nb s.2)[b]):=fun ha hb r=>List.pairwise_iff_getElem.1 (h.srt s.2) _ _ ha hb r;have t:k≠i:=by split at p<;>omega
 refine⟨fun e=>t (eY (h.nd s.2) (e.trans o.symm)),?_⟩;rw[←o,←f1]at*;refine Iz f c m ?_;by_cases e:i=0
 ·rw[if_pos e]at p;exact .inr ⟨lt hi d O9,lt hi hj O9,lt hj d O9⟩
 ·rw[if_neg e]at p;refine .inl ⟨lt d hi O9,?_⟩;rcases Nat.lt_or_gt_of_ne q with g|g
  ·exact .inl ⟨lt hj d O9,lt hj hi g⟩
  ·exact .inr ⟨lt hi hj g,lt d hj O9⟩
noncomputable def tU(l:List Ob)(nb:BA→List BA)(d:Dart):Dart:=match (an l).find? (fun s=>decide (aQ l s=d))with|some s=>aQ l (gw nb s)|none=>d
theorem fZ(b:¬dA l){s:eM}(hs:s∈an l):tU l nb (aQ l s)=aQ l (gw nb s):=by
 unfold tU;cases e:(an l).find? (fun t=>decide (aQ l t=aQ l s))with
 |none=>
  have:=List.find?_eq_none.1 e s hs;simp at this
 |some t=>
  have c:=List.mem_of_find?_eq_some e;have a:=List.find?_some e;simp only[decide_eq_true_eq]at a;rw[kV b c hs a]
theorem kD.rot(h:kD l nb)(hm:aZ l=true)(a:¬dA l):GB (cw l) (tU l nb):=by
 rw[eW];refine⟨fun d b=>?_,fun d b=>?_,fun d b e he f=>?_,fun d b x hx k j=>?_⟩
 ·obtain⟨s,hs,rfl⟩:=List.mem_map.1 b;rw[fZ a hs];exact List.mem_map.2 ⟨_,h.aft_mem hs,rfl⟩
 ·obtain⟨s,hs,rfl⟩:=List.mem_map.1 b;rw[fZ a hs];rfl
 ·obtain⟨s,hs,rfl⟩:=List.mem_map.1 b;obtain⟨t,c,rfl⟩:=List.mem_map.1 he;rw[fZ a hs,fZ a c]at f;rw[h.aft_inj hs c (kV a (h.aft_mem hs) (h.aft_mem c) f)]
 ·obtain⟨s,hs,rfl⟩:=List.mem_map.1 b;obtain⟨t,c,e⟩:=List.mem_map.1 hx;obtain⟨g1,g2⟩:=Prod.ext_iff.1 e;have m:t.1=s.2:=((eX a hs c).2.2 |> fun _=>(eX a c hs).2.2 g1);rw[fZ a hs]at j ⊢;have g:ar l t.2=x:=g2;subst g;have i:(s.2,t.2)∈an l:=by rw[←m];exact c
  obtain⟨k1,k2⟩:=h.out hm a hs i (fun e=>k (by rw[e];rfl)) (fun e=>j (by rw[e];rfl));refine⟨fun e=>k1 ?_,k2⟩;have ha:=h.aft_mem hs;exact((eX a (bI.2 hs) ha).2.2 |> fun _=>((eX a hs ha).2.2 e.symm).symm)
end
def aS(c:List BA)(i:Nat):BA:=c.getD (i%c.length) ⟨#[]⟩
def bE(c:List BA):List eM:=(List.range c.length).map fun i=>(aS c i,aS c (i+1))
theorem tV(c:List BA)(i:Nat):aS c (i%c.length)=aS c i:=by unfold aS;rw[Nat.mod_mod]
theorem jZ(c:List BA)(i:Nat):aS c (i+c.length)=aS c i:=by unfold aS;rw[Nat.add_mod_right]
theorem iK{c:List BA}{i:Nat}(h:i<c.length):aS c i=c[i]:=by
 unfold aS;rw[Nat.mod_eq_of_lt h,List.getD_eq_getElem?_getD,List.getElem?_eq_getElem h,Option.getD_some]
theorem EN(c:List BA)(i:Nat):aS c (i%c.length+1)=aS c (i+1):=by unfold aS;rw[Nat.mod_add_mod]
theorem gj{c:List BA}(h:c≠[])(i:Nat):(aS c i,aS c (i+1))∈bE c:=by
 have a:0<c.length:=List.length_pos_iff.2 h;refine List.mem_map.2 ⟨i%c.length,List.mem_range.2 (Nat.mod_lt _ a),?_⟩;rw[tV,EN]
theorem lQ{c:List BA}{s:eM}(h:s∈bE c):∃i,i<c.length∧s=(aS c i,aS c (i+1)):=by
 obtain⟨i,hi,rfl⟩:=List.mem_map.1 h;exact⟨i,List.mem_range.1 hi,rfl⟩
theorem oO{α:Type}(f:Nat→α)(n:Nat)(a:∀i,f (i+n)=f i):∀k,((List.range n).map fun j=>f (k+j)).Perm ((List.range n).map f)
 |0=>by simp
 |k+1=>by
  refine List.Perm.trans ?_ (oO f n a k)
  match n,a with
  |0,_=>simp
  |m+1,a=>
   rw[show(List.range (m+1)).map (fun j=>f (k+1+j))=(List.range m).map (fun j=>f (k+1+j))++[f k]from by
    rw[List.range_succ,List.map_append,List.map_singleton,show k+1+m=k+(m+1)from by omega,a]]
   rw[show(List.range (m+1)).map (fun j=>f (k+j))=f k::(List.range m).map (fun j=>f (k+1+j))from by
    rw[List.range_succ_eq_map,List.map_cons,List.map_map];congr 1;exact List.map_congr_left fun j _=>by show f (k+(j+1))=_;rw[show k+(j+1)=k+1+j from by omega]]
   exact List.perm_append_singleton _ _
def dt(c:List BA)(i:Nat):List BA:=c.drop i++c.take i
theorem gP{c:List BA}{i:Nat}(h:i≤c.length):(dt c i).length=c.length:=by
 unfold dt;rw[List.length_append,List.length_drop,List.length_take];omega
theorem nB{c:List BA}{i:Nat}(h:i≤c.length)(j:Nat):aS (dt c i) j=aS c (i+j):=by
 by_cases a:c.length=0
 ·have:c=[]:=List.length_eq_zero_iff.1 a;subst this;simp[aS,dt]
 ·unfold aS;rw[gP h];have hj:=Nat.mod_lt j (show 0<c.length by omega);have e:(i+j)%c.length=if i+j%c.length<c.length then i+j%c.length else i+j%c.length-c.length:=by
   rw[←Nat.add_mod_mod];split
   ·rename_i g;exact Nat.mod_eq_of_lt g
   ·rename_i g;rw[Nat.mod_eq_sub_mod O9,Nat.mod_eq_of_lt O9]
  rw[e,List.getD_eq_getElem?_getD,List.getD_eq_getElem?_getD];unfold dt;split
  ·rename_i g;rw[List.getElem?_append_left (by rw[List.length_drop];omega),List.getElem?_drop]
  ·rename_i g;rw[List.getElem?_append_right (by rw[List.length_drop];omega),List.length_drop,List.getElem?_take_of_lt O9,show j%c.length-(c.length-i)=i+j%c.length-c.length from by omega]
theorem jF{c:List BA}{i:Nat}(h:i≤c.length):(bE (dt c i)).Perm (bE c):=by
 unfold bE;rw[gP h];have:=oO (fun j=>(aS c j,aS c (j+1))) c.length (fun j=>by simp only[show j+c.length+1=j+1+c.length from by omega,jZ]) i;refine List.Perm.trans (List.Perm.of_eq ?_) this;exact List.map_congr_left fun j _=>by rw[nB h,nB h];rfl
section
variable {l:List Ob} {nb:BA→List BA}
structure yE(l:List Ob)(nb:BA→List BA)(c:List BA):Prop where
 ne:c≠[]
 sub:∀s∈bE c,s∈an l
 nd:(bE c).Nodup
 nxt:∀i,gw nb (aS c i,aS c (i+1))=(aS c (i+1),aS c (i+2))
theorem yE.rot{c:List BA}(h:yE l nb c){i:Nat}(hi:i≤c.length):yE l nb (dt c i):=by
 have hp:=jF hi;refine⟨fun e=>h.ne ?_,fun s hs=>h.sub s (hp.mem_iff.1 hs),hp.nodup_iff.2 h.nd,fun j=>?_⟩
 ·have:=gP hi;rw[e]at this;exact List.length_eq_zero_iff.1 this.symm
 ·rw[nB hi,nB hi,nB hi];exact h.nxt (i+j)
def ib(nb:BA→List BA)(s:eM):Nat→eM
 |0=>s
 |k+1=>gw nb (ib nb s k)
theorem ic(h:kD l nb){s:eM}(hs:s∈an l):∀k,ib nb s k∈an l
 |0=>hs
 |k+1=>h.aft_mem (ic h hs k)
theorem EO(h:kD l nb){s:eM}(hs:s∈an l){i j:Nat}(e:ib nb s (i+1)=ib nb s (j+1)):ib nb s i=ib nb s j:=h.aft_inj (ic h hs i) (ic h hs j) e
def bA(nb:BA→List BA)(s:eM)(k:Nat):List BA:=(List.range k).map fun i=>(ib nb s i).1
theorem iL(nb:BA→List BA)(s:eM)(k:Nat):(bA nb s k).length=k:=by unfold bA;rw[List.length_map,List.length_range]
theorem vT(nb:BA→List BA)(s:eM)(k:Nat):bA nb s (k+1)=bA nb s k++[(ib nb s k).1]:=by
 unfold bA;rw[List.range_succ,List.map_append,List.map_singleton]
theorem AR{s:eM}{n:Nat}(e:ib nb s n=s):∀i,ib nb s (i+n)=ib nb s i
 |0=>by rw[Nat.zero_add,e];rfl
 |i+1=>by
  rw[show i+1+n=(i+n)+1 from by omega];show gw nb _=gw nb _;rw[AR e i]
theorem GO{s:eM}{n:Nat}(e:ib nb s n=s)(i:Nat):ib nb s (i%n)=ib nb s i:=by
 by_cases b:n=0
 ·subst b;rw[Nat.mod_zero]
 ·induction i using Nat.strongRecOn with
  |ind i c=>
   by_cases g:i<n
   ·rw[Nat.mod_eq_of_lt g]
   ·have d:=c (i-n) O9;have a:=AR e (i-n);rw[Nat.sub_add_cancel O9]at a;rw[a,←d,←Nat.mod_eq_sub_mod O9]
theorem jG{s:eM}{n:Nat}(a:0<n)(e:ib nb s n=s)(i:Nat):aS (bA nb s n) i=(ib nb s i).1:=by
 have b:=Nat.mod_lt i a;unfold aS;rw[iL,←GO e i];unfold bA;rw[List.getD_eq_getElem?_getD,List.getElem?_map,List.getElem?_range b];rfl
theorem kW{s:eM}{n:Nat}(a:0<n)(e:ib nb s n=s):bE (bA nb s n)=(List.range n).map (ib nb s):=by
 unfold bE;rw[iL];refine List.map_congr_left fun i _=>?_;rw[jG a e,jG a e];rfl
theorem IC(h:kD l nb){s:eM}(hs:s∈an l){n:Nat}(a:0<n)(e:ib nb s n=s)(c:((List.range n).map (ib nb s)).Nodup):yE l nb (bA nb s n):=by
 refine⟨fun d=>?_,fun t b=>?_,by rw[kW a e];exact c,fun i=>?_⟩
 ·have:=iL nb s n;rw[d]at this;simp at this;omega
 ·rw[kW a e]at b;obtain⟨i,_,rfl⟩:=List.mem_map.1 b;exact ic h hs i
 ·rw[jG a e,jG a e,jG a e];rfl
structure ru(l:List Ob)(nb:BA→List BA)(done:eM→Prop)(cs:List (List BA)):Prop where
 cyc:∀c∈cs,yE l nb c
 nd:(cs.flatMap bE).Nodup
 all:∀s,done s↔s∈cs.flatMap bE
theorem ru.start:ru l nb (fun _=>False) []:=⟨fun _ h=>(by cases h),List.nodup_nil,fun s=>⟨False.elim,fun h=>(by cases h)⟩⟩
theorem ru.perm{done:eM→Prop}{cs a:List (List BA)}(h:ru l nb done cs)(hp:cs.Perm a):ru l nb done a:=
 ⟨fun c b=>h.cyc c (hp.mem_iff.2 b),(hp.flatMap_right bE).nodup_iff.1 h.nd,fun s=>(h.all s).trans (hp.flatMap_right bE).mem_iff⟩
theorem ru.congr{done done':eM→Prop}{cs:List (List BA)}(h:ru l nb done cs)(e:∀s,done s↔done' s):ru l nb done' cs:=⟨h.cyc,h.nd,fun s=>(e s).symm.trans (h.all s)⟩
theorem yE.back{c:List BA}(h:yE l nb c)(b:kD l nb){s:eM}(hs:s∈an l)(ha:gw nb s∈bE c):s∈bE c:=by
 obtain⟨i,hi,e⟩:=lQ ha;have d:0<c.length:=O9;have a:=h.nxt (i+c.length-1);rw[show i+c.length-1+1=i+c.length from by omega,show i+c.length-1+2=i+1+c.length from by omega,jZ,jZ,←e]at a;have hm:=gj h.ne (i+c.length-1);rw[show i+c.length-1+1=i+c.length from by omega,jZ]at hm;rw[←b.aft_inj (h.sub _ hm) hs a];exact hm
theorem ru.back{done:eM→Prop}{cs:List (List BA)}(h:ru l nb done cs)(b:kD l nb){s:eM}(hs:s∈an l)(ha:done (gw nb s)):done s:=by
 rw[h.all]at ha ⊢;obtain⟨c,a,hm⟩:=List.mem_flatMap.1 ha;exact List.mem_flatMap.2 ⟨c,a,(h.cyc c a).back b hs hm⟩
theorem ru.rotate{done:eM→Prop}{cs:List (List BA)}{c:List BA}(h:ru l nb done (c::cs)){i:Nat}(hi:i≤c.length):ru l nb done (dt c i::cs):=by
 have hp:((dt c i::cs).flatMap bE).Perm ((c::cs).flatMap bE):=by
  rw[List.flatMap_cons,List.flatMap_cons];exact(jF hi).append_right _
 refine⟨fun d a=>?_,hp.nodup_iff.2 h.nd,fun s=>(h.all s).trans hp.mem_iff.symm⟩;rcases List.mem_cons.1 a with rfl|a
 ·exact(h.cyc c (List.mem_cons_self ..)).rot hi
 ·exact h.cyc d (List.mem_cons_of_mem _ a)
structure kj(nb:BA→List BA)(done:eM→Prop)(s:eM)(k:Nat):Prop where
 nd:((List.range k).map (ib nb s)).Nodup
 new:∀i,i<k→¬done (ib nb s i)
theorem kj.start(nb:BA→List BA)(done:eM→Prop)(s:eM):kj nb done s 0:=⟨List.nodup_nil,fun i h=>absurd h (Nat.not_lt_zero i)⟩
theorem kj.next{done:eM→Prop}{s:eM}{k:Nat}(h:kj nb done s k)(c:¬done (ib nb s k))(d:∀i,i<k→ib nb s k≠ib nb s i):kj nb done s (k+1):=by
 refine⟨?_,fun i hi=>?_⟩
 ·rw[List.range_succ,List.map_append,List.map_singleton,List.nodup_append];refine⟨h.nd,(by simp),fun a ha b hb=>?_⟩;obtain⟨i,hi,rfl⟩:=List.mem_map.1 ha;rw[List.mem_singleton.1 hb];exact fun e=>d i (List.mem_range.1 hi) e.symm
 ·rcases Nat.lt_or_eq_of_le (Nat.lt_succ_iff.1 hi)with g|rfl
  ·exact h.new i g
  ·exact c
theorem kj.le{done:eM→Prop}{s:eM}{k:Nat}(h:kj nb done s k)(a:kD l nb)(hs:s∈an l):k≤(an l).length:=by
 have:=jR h.nd (m:=an l) fun t b=>by
  obtain⟨i,_,rfl⟩:=List.mem_map.1 b;exact ic a hs i
 rwa [List.length_map,List.length_range]at this
theorem kj.done{done:eM→Prop}{cs:List (List BA)}(d:ru l nb done cs)(f:kD l nb){s:eM}(hs:s∈an l){k:Nat}(h:kj nb done s k)(he:done (ib nb s k)∨∃i,i<k∧ib nb s k=ib nb s i):(k=0∧done s)∨(0<k∧ru l nb (fun t=>done t∨∃i,i<k∧t=ib nb s i) (bA nb s k::cs)):=by
 rcases he with he|⟨i,hi,he⟩
 ·match k,h,he with
  |0,_,he=>exact .inl ⟨rfl,he⟩
  |k+1,h,he=>exact absurd (d.back f (ic f hs k) he) (h.new k (Nat.lt_succ_self k))
 ·match k,h,hi,he with
  |k+1,h,hi,he=>
   have n:i=0:=by
    match i,hi,he with
    |0,_,_=>rfl
    |j+1,hi,he=>
     have e:=EO f hs he;have:k=j:=eY h.nd (i:=k) (j:=j) (hi:=by simp) (hj:=by simp;omega) (by simpa using e);omega
   subst n;have m:ib nb s (k+1)=s:=he;have o:=IC f hs (Nat.succ_pos k) m h.nd;have hr:=kW (nb:=nb) (Nat.succ_pos k) m;refine .inr ⟨Nat.succ_pos k,fun c hm=>?_,?_,fun t=>?_⟩
   ·rcases List.mem_cons.1 hm with rfl|hm
    ·exact o
    ·exact d.cyc c hm
   ·rw[List.flatMap_cons,List.nodup_append,hr];refine⟨h.nd,d.nd,fun a ha b hb e=>?_⟩;obtain⟨j,hj,rfl⟩:=List.mem_map.1 ha;exact h.new j (List.mem_range.1 hj) ((d.all _).2 (by rw[e];exact hb))
   ·rw[List.flatMap_cons,List.mem_append,hr,List.mem_map,d.all t];constructor
    ·rintro(g|⟨j,hj,rfl⟩)
     ·exact .inr g
     ·exact .inl ⟨j,List.mem_range.2 hj,rfl⟩
    ·rintro(⟨j,hj,rfl⟩|g)
     ·exact .inr ⟨j,List.mem_range.1 hj,rfl⟩
     ·exact .inl g
structure DK(l:List Ob)(nb:BA→List BA)(cs:List (List BA)):Prop where
 cyc:∀c∈cs,yE l nb c
 all:(cs.flatMap bE).Perm (an l)
theorem ru.whole{done:eM→Prop}{cs:List (List BA)}(h:ru l nb done cs)(hs:(an l).Nodup)(a:∀s∈an l,done s):DK l nb cs:=by
 refine⟨h.cyc,(List.perm_ext_iff_of_nodup h.nd hs).2 fun s=>⟨fun hm=>?_,fun hm=>(h.all s).1 (a s hm)⟩⟩;obtain⟨c,b,hx⟩:=List.mem_flatMap.1 hm;exact(h.cyc c b).sub s hx
theorem DK.perm{cs a:List (List BA)}(h:DK l nb cs)(hp:cs.Perm a):DK l nb a:=⟨fun c b=>h.cyc c (hp.mem_iff.2 b),(hp.flatMap_right bE).symm.trans h.all⟩
def aw(l:List Ob)(c:List BA):List Dart:=(bE c).map (aQ l)
theorem yE.orb{c:List BA}(h:yE l nb c)(a:¬dA l):Er (cw l) (tU l nb) (aw l c):=by
 have q:0<c.length:=List.length_pos_iff.2 h.ne;refine⟨fun d m=>?_,fun e=>?_,gN h.nd fun s hs t b e=>kV a (h.sub s hs) (h.sub t b) e,?_,fun f n=>?_⟩
 ·obtain⟨s,hs,rfl⟩:=List.mem_map.1 m;rw[eW];exact List.mem_map.2 ⟨s,h.sub s hs,rfl⟩
 ·have:=congrArg List.length e;unfold aw bE at this;simp at this;exact h.ne this
 ·have o:(aw l c).map (tU l nb)=((List.range c.length).map fun j=>(aS c (1+j),aS c (1+j+1))).map (aQ l):=by
   unfold aw;rw[List.map_map,bE,List.map_map,List.map_map];refine List.map_congr_left fun j _=>?_;show tU l nb (aQ l _)=_;rw[fZ a (h.sub _ (gj h.ne j)),h.nxt];show _=aQ l (aS c (1+j),aS c (1+j+1));rw[Nat.add_comm 1 j]
  rw[o];exact(oO (fun j=>(aS c j,aS c (j+1))) c.length (fun j=>by simp only[show j+c.length+1=j+1+c.length from by omega,jZ]) 1).map _
 ·have key:∀i,f (aQ l (aS c i,aS c (i+1)))=f (aQ l (aS c 0,aS c 1)):=by
   intro i;induction i with
   |zero=>rfl
   |succ i p=>
    rw[←p,←h.nxt i,←fZ a (h.sub _ (gj h.ne i))];refine n _ ?_;rw[eW];exact List.mem_map.2 ⟨_,h.sub _ (gj h.ne i),rfl⟩
  intro s hs t b;obtain⟨r,g,rfl⟩:=List.mem_map.1 hs;obtain⟨u,k,rfl⟩:=List.mem_map.1 b;obtain⟨i,_,rfl⟩:=lQ g;obtain⟨j,_,rfl⟩:=lQ k;rw[key i,key j]
theorem DK.plane{cs:List (List BA)}(h:DK l nb cs)(f:kD l nb)(hm:aZ l=true)(a:¬dA l):bJ (cw l) (tU l nb) (cs.map (aw l)):=by
 refine⟨qH hm a,vR hm a,f.rot hm a,fun d g=>?_,?_⟩
 ·obtain⟨c,b,rfl⟩:=List.mem_map.1 g;exact(h.cyc c b).orb a
 ·have e:(cs.map (aw l)).flatten=(cs.flatMap bE).map (aQ l):=by
   rw[←List.flatMap_def,List.map_flatMap];rfl
  rw[e,eW];exact h.all.map _
end
