/-
  The borders of a map as plain data, in order, and when they are bad. No program in sight.
-/
import Derived.Test.YtfkgjbdeicggaaaGreatZI
import Derived.DeepKeys4
import Derived.WideKeyEntry
namespace Go.Proofs.Pto
open Go Go.Proofs.Pg Go.Proofs.Px Go.Proofs.Pn
abbrev Pr:=BA×BA
def ck(a b:BA):BA:=if fK b a then b else a
def eu(a b:BA):BA:=if fK a b then b else a
def bC(p:Pr):Pr:=(ck p.1 p.2,eu p.1 p.2)
def sideAt(o:Ob)(i:Nat):Pr:=(o.refs.getD i ⟨#[]⟩,o.refs.getD ((i+1)%o.refs.length) ⟨#[]⟩)
def br(o:Ob):Nat:=if o.kind=3 then o.refs.length else if o.kind=2 then o.refs.length-1 else 0
def bw(o:Ob):List Pr:=(List.range (br o)).map (fun i=>bC (sideAt o i))
def bU(l:List Ob)(o:Ob):List Pr:=if (o.kind=2∨o.kind=3)∧o.refs.all (isNode l)=true then bw o else []
def fX(l:List Ob):List Pr:=l.flatMap (bU l)
def kC(p q:Pr):Prop:=fK p.1 q.1=true∨(p.1=q.1∧fK p.2 q.2=true)
instance:DecidableRel kC:=fun p q=>by unfold kC;exact inferInstance
theorem jW(p:Pr):¬kC p p:=by
 rintro(h|⟨_,h⟩)<;>rw[bj]at h<;>cases h
theorem lK{p q r:Pr}(a:kC p q)(b:kC q r):kC p r:=by
 unfold kC at*;rcases a with a|⟨c,a⟩<;>rcases b with b|⟨d,b⟩
 ·exact .inl (dg a b)
 ·exact .inl (d▸a)
 ·exact .inl (c▸b)
 ·exact .inr ⟨c.trans d,dg a b⟩
theorem gL{a b:BA}(c:fK a b=false)(d:a≠b):fK b a=true:=qs c (fun e=>d (toList_inj.1 e))
theorem tT{p q:Pr}(a:¬kC p q)(c:q≠p):kC q p:=by
 unfold kC at*;by_cases e:q.1=p.1
 ·right;refine⟨e,?_⟩;cases h:fK q.2 p.2 with
  |true=>rfl
  |false=>
   by_cases b:q.2=p.2
   ·exact absurd (Prod.ext e b) c
   ·exact absurd (.inr ⟨e.symm,gL h b⟩) a
 ·left;cases h:fK q.1 p.1 with
  |true=>rfl
  |false=>exact absurd (.inl (gL h e)) a
def fY(p:Pr):List Pr→List Pr
 | []=>[p]
 |q::l=>if kC q p then q::fY p l else if q=p then q::l else p::q::l
theorem qu(p x:Pr)(l:List Pr):x∈fY p l↔x=p∨x∈l:=by
 induction l with
 |nil=>simp[fY]
 |cons q l b=>
  unfold fY;split
  ·rw[List.mem_cons,b,List.mem_cons];constructor
   ·rintro(h|h|h)
    ·exact .inr (.inl h)
    ·exact .inl h
    ·exact .inr (.inr h)
   ·rintro(h|h|h)
    ·exact .inr (.inl h)
    ·exact .inl h
    ·exact .inr (.inr h)
  ·split
   ·rename_i h;rw[List.mem_cons];constructor
    ·exact .inr
    ·rintro(a|a)
     ·exact .inl (a.trans h.symm)
     ·exact a
   ·rw[List.mem_cons]
theorem vI(p:Pr)(l:List Pr)(h:l.Pairwise kC):(fY p l).Pairwise kC:=by
 induction l with
 |nil=>simp[fY]
 |cons q l f=>
  obtain⟨d,g⟩:=List.pairwise_cons.1 h;unfold fY;split
  ·rename_i b;refine List.pairwise_cons.2 ⟨fun x hx=>?_,f g⟩;rcases(qu p x l).1 hx with e|e
   ·rw[e];exact b
   ·exact d x e
  ·rename_i b;split
   ·exact h
   ·rename_i c;have a:=tT b (fun e=>c e.symm);refine List.pairwise_cons.2 ⟨fun x hx=>?_,h⟩;rcases List.mem_cons.1 hx with e|e
    ·rw[e];exact a
    ·exact lK a (d x e)
def cS(acc:List Pr)(l:List Pr):List Pr:=l.foldl (fun acc p=>fY p acc) acc
theorem vJ(acc l:List Pr)(p:Pr):cS acc (l++[p])=fY p (cS acc l):=by simp[cS]
theorem yz(acc l m:List Pr):cS acc (l++m)=cS (cS acc l) m:=by simp[cS]
theorem yA(acc l:List Pr)(x:Pr):x∈cS acc l↔x∈acc∨x∈l:=by
 induction l generalizing acc with
 |nil=>simp[cS]
 |cons p l a=>
  show x∈cS (fY p acc) l↔_;rw[a,qu,List.mem_cons];constructor
  ·rintro((h|h)|h)
   ·exact .inr (.inl h)
   ·exact .inl h
   ·exact .inr (.inr h)
  ·rintro(h|h|h)
   ·exact .inl (.inr h)
   ·exact .inl (.inl h)
   ·exact .inr h
theorem jt(acc l:List Pr)(h:acc.Pairwise kC):(cS acc l).Pairwise kC:=by
 induction l generalizing acc with
 |nil=>exact h
 |cons p l a=>exact a _ (vI p acc h)
def af(l:List Ob):List Pr:=cS [] (fX l)
theorem df(l:List Ob)(p:Pr):p∈af l↔p∈fX l:=by unfold af;rw[yA];simp
theorem iF(l:List Ob):(af l).Pairwise kC:=jt _ _ List.Pairwise.nil
theorem yB(l:List Ob)(L:List Pr)(a:L.Pairwise kC)(b:∀p,p∈L↔p∈fX l):L=af l:=
 sf jW (fun _ _ _=>lK) a (iF l) (fun p=>by rw[b,df])
theorem vK(p:Pr)(l:List Pr):(fY p l).length≤l.length+1:=by
 induction l with
 |nil=>simp[fY]
 |cons q l a=>
  unfold fY;split
  ·simp only[List.length_cons];omega
  ·split
   ·simp
   ·simp
theorem yC(acc l:List Pr):(cS acc l).length≤acc.length+l.length:=by
 induction l generalizing acc with
 |nil=>simp[cS]
 |cons p l a=>
  have b:=a (fY p acc);have c:=vK p acc;show(cS (fY p acc) l).length≤_;simp only[List.length_cons];omega
theorem qv(p:Pr)(a b:List Pr)(ha:∀q∈a,kC q p)(hb:∀q,b.head? =some q→¬kC q p):fY p (a++b)=if b.head? =some p then a++b else a++p::b:=by
 induction a with
 |nil=>
  cases b with
  |nil=>simp[fY]
  |cons q b=>
   have:=hb q rfl;simp only[List.nil_append,fY];rw[if_neg this];simp only[List.head?_cons,Option.some.injEq]
 |cons q a c=>
  have d:=ha q (List.mem_cons_self ..);simp only[List.cons_append,fY];rw[if_pos d,c (fun x hx=>ha x (List.mem_cons_of_mem _ hx))];split<;>rfl
def ar(l:List Ob)(s:BA):Pt:=match cA l s with|some o=>⟨o.x,o.y⟩|none=>⟨0,0⟩
def cF(l:List Ob)(p:Pr):Sg:=⟨ar l p.1,ar l p.2⟩
def dw(l:List Ob):List Sg:=(af l).map (cF l)
def fj(p:Pr)(s:BA):Prop:=s=p.1∨s=p.2
def qw(a b:Pr):Prop:=fj b a.1∨fj b a.2
def EH(l:List Ob):Prop:=∃p∈af l,∃q∈af l,∃s t,fj p s∧fj q t∧s≠t∧ar l s=ar l t
def I8(l:List Ob):Prop:=EH l∨∃(i k:Nat)(a b:Pr),i<k∧(af l)[i]? =some a∧(af l)[k]? =some b∧meets (cF l a) (cF l b)≠0∧¬(meets (cF l a) (cF l b)=1∧qw a b)
def dA(l:List Ob):Prop:=EH l∨∃(i k:Nat)(a b:Pr),i<k∧(af l)[i]? =some a∧(af l)[k]? =some b∧meets (cF l a) (cF l b)≠0∧meets (cF l a) (cF l b)≠1
theorem qz(l:List Ob):I8 l↔dA l:=by
 constructor
 ·rintro(h|⟨i,k,a,b,d,ha,hb,f,g⟩)
  ·exact .inl h
  ·by_cases e:meets (cF l a) (cF l b)=1
   ·left;have m:¬qw a b:=fun c=>g ⟨e,c⟩;have hs:=kN e;have key:∀s t,fj a s→fj b t→ar l s=ar l t→EH l:=fun s t n j o=>by
     refine⟨a,List.mem_of_getElem? ha,b,List.mem_of_getElem? hb,s,t,n,j,?_,o⟩;rintro rfl;rcases n with rfl|rfl
     ·exact m (.inl j)
     ·exact m (.inr j)
    unfold gO at hs;rcases hs with h|h|h|h
    ·exact key _ _ (.inl rfl) (.inl rfl) h
    ·exact key _ _ (.inl rfl) (.inr rfl) h
    ·exact key _ _ (.inr rfl) (.inl rfl) h
    ·exact key _ _ (.inr rfl) (.inr rfl) h
   ·exact .inr ⟨i,k,a,b,d,ha,hb,f,e⟩
 ·rintro(h|⟨i,k,a,b,d,ha,hb,f,g⟩)
  ·exact .inl h
  ·exact .inr ⟨i,k,a,b,d,ha,hb,f,fun c=>g c.1⟩
structure EI(E:List (BA×Pt))(g:Pt→Option BA)(b:Bool):Prop where
 mem:∀p s,g p=some s→(s,p)∈E
 all:∀e∈E,(g e.2).isSome=true
 good:b=false→∀e∈E,g e.2=some e.1
 bad:b=true→∃e∈E,∃f∈E,e.2=f.2∧e.1≠f.1
theorem EI.nil:EI [] (fun _=>none) false:=⟨fun _ _ h=>(by cases h),fun _ h=>(by cases h),fun _ _ h=>(by cases h),fun h=>(by cases h)⟩
theorem EI.step{E:List (BA×Pt)}{g:Pt→Option BA}{b:Bool}(h:EI E g b)(s:BA)(p:Pt):EI (E++[(s,p)]) (fun q=>if q=p then some s else g q) (b||(match g p with|some t=>decide (t≠s)|none=>false)):=by
 refine⟨fun q t d=>?_,fun e he=>?_,fun hb e he=>?_,fun hb=>?_⟩
 ·by_cases c:q=p
  ·rw[if_pos c]at d;cases d;rw[c];simp
  ·rw[if_neg c]at d;exact List.mem_append_left _ (h.mem q t d)
 ·by_cases c:e.2=p
  ·simp[c]
  ·simp only[c,if_false];rcases List.mem_append.1 he with he|he
   ·exact h.all e he
   ·simp at he;rw[he]at c;exact absurd rfl c
 ·rw[Bool.or_eq_false_iff]at hb;by_cases c:e.2=p
  ·simp only[c,if_true];rcases List.mem_append.1 he with he|he
   ·have i:=h.good hb.1 e he;rw[c]at i;have a:=hb.2;rw[i]at a;simp at a;rw[a]
   ·simp at he;rw[he]
  ·simp only[c,if_false];rcases List.mem_append.1 he with he|he
   ·exact h.good hb.1 e he
   ·simp at he;rw[he]at c;exact absurd rfl c
 ·rw[Bool.or_eq_true]at hb;rcases hb with hb|hb
  ·obtain⟨e,he,f,k,i,a⟩:=h.bad hb;exact⟨e,List.mem_append_left _ he,f,List.mem_append_left _ k,i,a⟩
  ·cases j:g p with
   |none=>rw[j]at hb;cases hb
   |some t=>
    rw[j]at hb;exact⟨(t,p),List.mem_append_left _ (h.mem p t j),(s,p),by simp,rfl,by simpa using hb⟩
def iG(l:List Ob)(L:List Pr):List (BA×Pt):=L.flatMap fun p=>[(p.1,ar l p.1),(p.2,ar l p.2)]
theorem jC(l:List Ob)(L:List Pr)(e:BA×Pt):e∈iG l L↔(∃p∈L,fj p e.1)∧e.2=ar l e.1:=by
 unfold iG;rw[List.mem_flatMap];constructor
 ·rintro⟨p,hp,he⟩;simp at he;rcases he with rfl|rfl
  ·exact⟨⟨p,hp,.inl rfl⟩,rfl⟩
  ·exact⟨⟨p,hp,.inr rfl⟩,rfl⟩
 ·rintro⟨⟨p,hp,he⟩,a⟩;refine⟨p,hp,?_⟩;obtain⟨b,c⟩:=e;simp only at he a;subst a;rcases he with rfl|rfl<;>simp
theorem mE{l:List Ob}{o:Ob}{p:Pr}(h:p∈bU l o):(o.kind=2∨o.kind=3)∧p.1∈o.refs∧p.2∈o.refs∧isNode l p.1=true∧isNode l p.2=true:=by
 unfold bU at h;split at h
 ·rename_i c;rw[bw,List.mem_map]at h;obtain⟨i,hi,rfl⟩:=h;rw[List.mem_range]at hi;have hlen:0<o.refs.length∧i<o.refs.length:=by
   unfold br at hi;split at hi
   ·omega
   ·split at hi<;>omega
  have hj:=Nat.mod_lt (i+1) hlen.1;have m1:o.refs.getD i ⟨#[]⟩∈o.refs:=by
   rw[List.getD_eq_getElem?_getD,List.getElem?_eq_getElem hlen.2];exact List.getElem_mem hlen.2
  have m2:o.refs.getD ((i+1)%o.refs.length) ⟨#[]⟩∈o.refs:=by
   rw[List.getD_eq_getElem?_getD,List.getElem?_eq_getElem hj];exact List.getElem_mem hj
  have key:∀a b:BA,a∈o.refs→b∈o.refs→ck a b∈o.refs∧eu a b∈o.refs:=fun a b ha hb=>by
   unfold ck eu;refine⟨?_,?_⟩<;>split<;>assumption
  obtain⟨k1,k2⟩:=key _ _ m1 m2;have ha:=List.all_eq_true.1 c.2;exact⟨c.1,k1,k2,ha _ k1,ha _ k2⟩
 ·cases h
theorem dG{l:List Ob}{p:Pr}(h:p∈af l):isNode l p.1=true∧isNode l p.2=true:=by
 rw[df,fX,List.mem_flatMap]at h;obtain⟨o,_,h⟩:=h;exact(mE h).2.2.2
theorem lL{l:List Ob}(hu:uniq l){s:BA}(h:isNode l s=true):∃o∈l,cA l s=some o∧o.id=s∧o.kind=1:=by
 rw[oJ hu]at h;cases e:cA l s with
 |none=>rw[e]at h;cases h
 |some o=>
  rw[e]at h;obtain⟨a,b⟩:=db e;exact⟨o,a,rfl,b,by simpa using h⟩
theorem gF{l:List Ob}(hm:aZ l=true){s:BA}(h:isNode l s=true):0≤(ar l s).x∧(ar l s).x<1048576∧0≤(ar l s).y∧(ar l s).y<1048576:=by
 obtain⟨o,a,b,_,c⟩:=lL (bP hm) h;have hb:=iD hm o a;unfold lJ mh at hb;rw[if_pos c]at hb;simp only[Bool.and_eq_true,mg,decide_eq_true_eq]at hb;unfold ar;rw[b];exact hb.2.2
instance (p:Pr)(L:List Pr):Decidable (p∈L):=decidable_of_iff (∃q∈L,q=p) ⟨fun⟨_,h,e⟩=>e▸h,fun h=>⟨p,h,rfl⟩⟩
def jD(l M:List Ob)(p:Pr):List BA:=(M.filter (fun o=>decide (p∈bU l o))).map Ob.id
def aB(l:List Ob)(p:Pr):List BA:=jD l l p
theorem sq(l M:List Ob)(o:Ob)(p:Pr):jD l (M++[o]) p=jD l M p++(if p∈bU l o then [o.id]else []):=by
 unfold jD;rw[List.filter_append,List.map_append];by_cases h:p∈bU l o<;>simp[h]
theorem iH{l M:List Ob}{p:Pr}{s:BA}:s∈jD l M p↔∃o∈M,p∈bU l o∧o.id=s:=by
 unfold jD;rw[List.mem_map];constructor
 ·rintro⟨o,h,rfl⟩;rw[List.mem_filter]at h;exact⟨o,h.1,by simpa using h.2,rfl⟩
 ·rintro⟨o,a,b,rfl⟩;exact⟨o,List.mem_filter.2 ⟨a,by simpa using b⟩,rfl⟩
theorem lM{l:List Ob}{p:Pr}(h:p∈af l):aB l p≠[]:=by
 rw[df,fX,List.mem_flatMap]at h;obtain⟨o,a,h⟩:=h;intro e;have:o.id∈aB l p:=iH.2 ⟨o,a,h,rfl⟩;rw[e]at this;cases this
theorem vL{l:List Ob}{p:Pr}:p∈af l↔aB l p≠[]:=by
 refine⟨lM,fun h=>?_⟩;obtain⟨s,hs⟩:=List.exists_mem_of_ne_nil _ h;obtain⟨o,a,b,_⟩:=iH.1 hs;rw[df,fX,List.mem_flatMap];exact⟨o,a,b⟩
theorem yD(s t:BA):bC (s,t)=bC (t,s):=by
 unfold bC ck eu;simp only;by_cases e:s=t
 ·subst e;rfl
 ·cases h:fK s t with
  |true=>rw[show fK t s=false from(gE h).1];rfl
  |false=>rw[gL h e];rfl
def jX(l:List Ob)(q:Pr):Prop:=
 (∃p∈af l,∃p'∈af l,∃s t,fj p s∧fj p' t∧s≠t∧ar l s=ar l t∧q=bC (s,t))∨
 ∃(i k:Nat)(a b:Pr),i<k∧(af l)[i]? =some a∧(af l)[k]? =some b∧meets (cF l a) (cF l b)≠0∧¬(meets (cF l a) (cF l b)=1∧qw a b)∧∃x∈aB l a,∃y∈aB l b,q=bC (x,y)
theorem oK(l:List Ob):(∃q,jX l q)↔I8 l:=by
 constructor
 ·rintro⟨q,⟨p,hp,h,e,s,t,f,c,d,g,_⟩|⟨i,k,a,b,f,c,d,g,j,_⟩⟩
  ·exact .inl ⟨p,hp,h,e,s,t,f,c,d,g⟩
  ·exact .inr ⟨i,k,a,b,f,c,d,g,j⟩
 ·rintro(⟨p,hp,h,e,s,t,f,c,d,g⟩|⟨i,k,a,b,f,c,d,g,j⟩)
  ·exact⟨_,.inl ⟨p,hp,h,e,s,t,f,c,d,g,rfl⟩⟩
  ·obtain⟨x,hx⟩:=List.exists_mem_of_ne_nil _ (lM (List.mem_of_getElem? c));obtain⟨y,hy⟩:=List.exists_mem_of_ne_nil _ (lM (List.mem_of_getElem? d));exact⟨_,.inr ⟨i,k,a,b,f,c,d,g,j,x,hx,y,hy,rfl⟩⟩
end Go.Proofs.Pto
namespace Go.Proofs.Pm
open Go Go.Maps Go.ChangeMaps
open Go.WideElems (Fit rd rg pl rd_val rd_key rg_of)
section
variable {P:Program} {k:TypeId} {K:Type} [DecidableEq K]
structure bD(B:dS P k K)(w:World)(b r:Nat)(l:List (K×Value))(left:K→Bool)(ja:Nat):Prop where
 own:∃D lf,w.ranges P k hv b r l.length D lf ja∧Maps.size D=l.length∧(∀x,B.ok x→Maps.has D (B.lit x)=(aJ l x).isSome)∧(∀x,B.ok x→∀v,aJ l x=some v→∀z,D.atKey (B.lit x) z= .held v)∧(∀q,Maps.has D q=true→∃p∈l,q=B.lit p.1)∧(∀x,B.ok x→lf (B.lit x)=left x)
 okk:∀p∈l,B.ok p.1
theorem bD.map{B:dS P k K}{w:World}{b r:Nat}{l:List (K×Value)}{left:K→Bool}{ja:Nat}(h:bD B w b r l left ja):dV B w b l:=by
 obtain⟨⟨D,lf,a,c,d,e,f,_⟩,g⟩:=h;exact⟨⟨D,a.owns,c,d,e,f⟩,g⟩
theorem bD.kept{B:dS P k K}{w w':World}{row:Option Nat}{b r:Nat}{l:List (K×Value)}{left:K→Bool}{ja:Nat}(h:bD B w b r l left ja)(a:w.grownBy w' row)(c:some b≠row)(d:some r≠row):bD B w' b r l left ja:=by
 obtain⟨⟨D,lf,e,f⟩,g⟩:=h;exact⟨⟨D,lf,e.kept a c d,f⟩,g⟩
theorem bD.left_eq{B:dS P k K}{w:World}{b r:Nat}{l:List (K×Value)}{left:K→Bool}{ja:Nat}(h:bD B w b r l left ja):w.rangeLeft b r=ja:=by
 obtain⟨⟨D,lf,a,c⟩,d⟩:=h;exact a.left_eq
theorem bD.lt{B:dS P k K}{w:World}{b r:Nat}{l:List (K×Value)}{left:K→Bool}{ja:Nat}(h:bD B w b r l left ja):r<w.heap.size:=by
 obtain⟨⟨D,lf,a,c⟩,d⟩:=h;exact a.lt
theorem dV.range{B:dS P k K}{w:World}{b:Nat}{l:List (K×Value)}(h:dV B w b l){t e:TypeId}(f:P.underlying t=some (.map k e)):∃w',(Instr.range t (.map (some b))).run P w= .ok (.pointer (some ⟨w.heap.size,0,none⟩)) w'∧bD B w' b w.heap.size l (fun x=>(aJ l x).isSome) l.length∧w.grownBy w' none∧w'.heap.size=w.heap.size+1:=by
 obtain⟨⟨D,g,a,c,i,j⟩,m⟩:=h;obtain⟨w',n,d,o,p⟩:=g.range B.keyed f;rw[a]at d;exact⟨w',n,⟨⟨D,_,d,a,c,i,j,c⟩,m⟩,o,p⟩
theorem EJ{w:World}{b r n:Nat}{D:DataW Value}{lf:Lit→Bool}{ja:Nat}(c:Keyed P k)(h:w.ranges P k hv b r n D lf ja){q:Lit}(d:lf q=true):Maps.has D q=true:=by
 obtain⟨es,clock,since,seen,c0,hb,F,hs,rfl,hr,hold,f,e,a,_⟩:=h;obtain⟨x,hx,rfl⟩:=a q d;obtain⟨y,hy⟩:=F.reads x hx;exact List.any_eq_true.2 ⟨rg P k hv x,mem_sorted.2 (List.mem_map.2 ⟨x,hx,rfl⟩),WideAt.sameKey_self (by rw[rg_of hy];exact c.key (rd_key hy))⟩
theorem bD.next{B:dS P k K}{w:World}{b r:Nat}{l:List (K×Value)}{left:K→Bool}{ja:Nat}(h:bD B w b r l left ja):
  (ja=0∧(∀x,B.ok x→left x=false)∧∀ty,(Instr.next (.pointer (some ⟨r,0,none⟩)) false ty).run P w= .ok (.tuple #[.bool false]) w)∨
  ∃x v w' a,B.ok x∧left x=true∧aJ l x=some v∧(∀ty,(Instr.next (.pointer (some ⟨r,0,none⟩)) false ty).run P w= .ok (.tuple #[.bool true,B.val x,v]) w')∧bD B w' b r l (fun y=>left y&& !decide (y=x)) a∧a<ja∧w.grownBy w' (some r)∧w'.heap.size=w.heap.size∧(Instr.entry (.pointer (some ⟨r,0,none⟩))).run P w'= .ok (.tuple #[B.val x,v]) w':=by
 obtain⟨⟨D,lf,o,u,z,q,s,i⟩,t⟩:=h;have key:∀ty d,(Instr.next (.pointer (some ⟨r,0,none⟩)) false ty).run P w=(Instr.next (.pointer (some ⟨r,0,none⟩)) false d).run P w:=fun ty d=>rfl;rcases o.next B.keyed 0 with⟨A,g,C⟩|⟨f,v,E,y,w',a,k1,k2,k3,F,G,H,I,J,L,j⟩
 ·exact .inl ⟨A,fun x hx=>by rw[←i x hx];exact g _,fun ty=>(key ty 0).trans C⟩
 ·obtain⟨p,hp,rfl⟩:=s E (EJ B.keyed o k2);have c:=t p hp;obtain rfl:f=B.val p.1:=B.keyed.inj k1 (B.key p.1 c);have hy:y.1= .held v:=by
   (have:(DataW.held v,[])=y:=by simpa[hv]using k3);rw[←this]
  cases e:aJ l p.1 with
  |none=>rw[oH]at e;exact(e p hp rfl).elim
  |some m=>
   have n:m=v:=by
    have g:=q p.1 c m e (.held v);rw[F (.held v),hy]at g;simpa using g.symm
   subst n;refine .inr ⟨p.1,m,w',a,c,by rw[←i _ c];exact k2,e,fun ty=>(key ty 0).trans G,⟨⟨D,_,H,u,z,q,s,fun x hx=>?_⟩,t⟩,I,J,L,j⟩;rw[i x hx];congr 1;by_cases ex:x=p.1
   ·subst ex;rw[WideAt.sameKey_self (tR c)];simp
   ·rw[sameKey_ne (fun e=>ex (B.inj x p.1 hx c e))];simp[ex]
end
end Go.Proofs.Pm
namespace Go.Proofs.Pm
open Go Go.Maps Go.ChangeMaps Go.Proofs.Pn Go.Proofs.Pto Go.Proofs.Pg
section
variable {P:Program} {k:TypeId} {K:Type} [DecidableEq K]
theorem dV.entry{B:dS P k K}{w:World}{b:Nat}{l:List (K×Value)}(h:dV B w b l)(s:WideMaps.KeyLaw P k){t e:TypeId}(n:P.underlying t=some (.map k e)){z:Value}(I:∀w:World,(zeroValue e).run P w= .ok z w)(Q:l.length<maxLen){x:K}(hx:B.ok x):
  ∃(st:Nat)(w1:World),(Instr.mapEntry t (.map (some b)) (B.val x)).run P w= .ok (.tuple #[(aJ l x).getD z,goInt st]) w1∧w.grownBy w1 (some b)∧w1.heap.size=w.heap.size∧w1.drawn=w.drawn∧(∃es c,w1.heap[b]? =some (.map es c))∧∀(p:World)(v:Value),p.heap[b]? =w1.heap[b]? →∃w3,(Instr.entryStore t (.map (some b)) (goInt st) v).run P p= .ok () w3∧dV B w3 b (cR l x v)∧p.grownBy w3 (some b)∧w3.heap.size=p.heap.size:=by
 obtain⟨w',R,S,_⟩:=h.store n Q hx (.bool false);obtain⟨D,T,_⟩:=id h.own;obtain⟨es,clock,hb,hF,_⟩:=id T;obtain⟨v0,st,y,a,f,J,q⟩:=WideElems.entry_then_store s n I hb hF (B.key x hx);have A:=h.look n I hx;have U:b<w.heap.size:=(Array.getElem?_eq_some_iff.1 hb).1;have hs:∀(u:World)(o C:Obj),u.heap[b]? =some o→u.grownBy (setBlock u b C) (some b)∧(setBlock u b C).heap.size=u.heap.size∧(setBlock u b C).heap[b]? =some C:=fun u o C hu=>by
  have L:b<u.heap.size:=(Array.getElem?_eq_some_iff.1 hu).1;refine⟨⟨rfl,rfl,rfl,by simp[setBlock],fun i hi M=>?_⟩,by simp[setBlock],by simp[setBlock,L]⟩;have:¬b=i:=fun e=>M (by rw[e]);simp[setBlock,this]
 obtain⟨g1,s1,b1⟩:=hs w _ (.map y a) hb;have hv:v0=(aJ l x).getD z:=by
  rcases s.find w (B.key x hx) es.toList hF.keys with⟨f1,f2⟩|⟨j,H,f1,f2,f3⟩
  ·(have g:(Instr.lookup t (.map (some b)) (B.val x) false).run P w= .ok z w:=by simp[Instr.lookup,run_underlying n,MapKept.run_getObj_map hb,s.check w _ (B.key x hx),f1,I,Result.andThen]);rw[A]at g;injection g with g _;rw[g];rcases J with⟨H,N,V,_⟩|⟨_,N⟩
   ·exact absurd V (f2 H N)
   ·exact N
  ·(have hj:es[j]? =some H:=by simpa using f2);(have g:(Instr.lookup t (.map (some b)) (B.val x) false).run P w= .ok H.val w:=by simp[Instr.lookup,run_underlying n,MapKept.run_getObj_map hb,s.check w _ (B.key x hx),f1,Result.andThen]);rw[A]at g;injection g with g _;rw[g];simp[Instr.mapEntry,run_underlying n,MapKept.run_getObj_map hb,s.check w _ (B.key x hx),f1,hj,f3,s.stays w (B.key x hx),MapKept.run_setObj_map _ hb,Result.andThen]at f;exact f.1.1.symm
 subst hv;refine⟨st,setBlock w b (.map y a),f,g1,s1,rfl,⟨_,_,b1⟩,fun p v r=>?_⟩;rw[b1]at r;obtain⟨E,d,O,F⟩:=q p v r;obtain⟨X,m,G,_⟩:=h.store n Q hx v;rw[F]at m;cases m;obtain⟨g2,s2,b2⟩:=hs p _ (.map E d) r;obtain⟨_,_,W⟩:=hs w _ (.map E d) hb;exact⟨_,O,G.same (b2.trans W.symm),g2,s2⟩
end
def uN(p:Pr):Value:=.agg #[.string p.1,.string p.2]
def IQ(p:Pr):Lit:=.string (keyBytes [.string p.1.data.toList,.string p.2.data.toList])
def iI(p:Pr):Prop:=p.1.size≤100000∧p.2.size≤100000
def kS(P:Program)(k:TypeId)(K:Keyed P k)(hk:∀a,iI a→keyOf P k (uN a)=some (IQ a)):dS P k Pr where
 val:=uN
 lit:=IQ
 ok:=iI
 keyed:=K
 key:=hk
 inj:=fun x y hx hy e=>by
  have h1:=hk x hx;have h2:=hk y hy;rw[e]at h1;have:=K.inj h1 h2;unfold uN at this;simp only[Value.agg.injEq,Array.mk.injEq,List.cons.injEq,Value.string.injEq,and_true]at this;exact Prod.ext this.1 this.2
def ptV(p:Pt):Value:=.agg #[.int .i64 p.x,.int .i64 p.y]
def IS(p:Pt):Lit:=.string (keyBytes [.int .i64 p.x,.int .i64 p.y])
def nx(p:Pt):Prop:= -4000000000≤p.x∧p.x≤4000000000∧ -4000000000≤p.y∧p.y≤4000000000
def ptKeys(P:Program)(k:TypeId)(K:Keyed P k)(hk:∀a,nx a→keyOf P k (ptV a)=some (IS a)):dS P k Pt where
 val:=ptV
 lit:=IS
 ok:=nx
 keyed:=K
 key:=hk
 inj:=fun x y hx hy e=>by
  have h1:=hk x hx;have h2:=hk y hy;rw[e]at h1;have:=K.inj h1 h2;unfold ptV at this;simp only[Value.agg.injEq,Array.mk.injEq,List.cons.injEq,Value.int.injEq,true_and,and_true]at this;cases x;cases y;simp only at this;rw[this.1,this.2]
end Go.Proofs.Pm
namespace Go.Proofs.Pto
open Go Go.Proofs.Pg Go.Proofs.Px Go.Proofs.Pn Go.Proofs.Pm
section
variable {K:Type} [DecidableEq K]
abbrev Rw(K:Type):=K×(Value×List BA)
structure bW(rows:List (Rw K))(G:K→List BA):Prop where
 nd:rows.Pairwise (fun x y=>x.1≠y.1)
 val:∀x∈rows,x.2.2=G x.1
 ne:∀x∈rows,G x.1≠[]
 dom:∀p,G p≠[]→∃x∈rows,x.1=p
def keyed(rows:List (Rw K)):List (K×Value):=rows.map (fun x=>(x.1,x.2.1))
omit [DecidableEq K]in
theorem oL:bW (K:=K) [] (fun _=>[]):=⟨List.Pairwise.nil,fun _ h=>(by cases h),fun _ h=>(by cases h),fun _ h=>absurd rfl h⟩
omit [DecidableEq K]in
theorem bW.same{rows:List (Rw K)}{G a:K→List BA}(h:bW rows G)(e:∀p,a p=G p):bW rows a:=by
 have:a=G:=funext e;rw[this];exact h
theorem bW.look{rows:List (Rw K)}{G:K→List BA}(h:bW rows G)(p:K):(G p=[]∧aJ (keyed rows) p=none)∨∃pre x post,rows=pre++x::post∧x.1=p∧x.2.2=G p∧G p≠[]∧aJ (keyed rows) p=some x.2.1:=by
 by_cases e:G p=[]
 ·refine .inl ⟨e,oH.2 fun q c he=>?_⟩;obtain⟨x,hx,rfl⟩:=List.mem_map.1 c;exact h.ne x hx (by rw[show x.1=p from he];exact e)
 ·obtain⟨x,hx,a⟩:=h.dom p e;obtain⟨pre,post,rfl⟩:=List.append_of_mem hx;refine .inr ⟨pre,x,post,rfl,a,by rw[h.val x hx,a],e,?_⟩;have b:∀y∈pre,y.1≠p:=fun y hy=>by
   have:=(List.pairwise_append.1 h.nd).2.2 y hy x (List.mem_cons_self ..);rw[a]at this;exact this
  unfold keyed aJ;rw[List.map_append,List.find?_append];have d:List.find? (fun q:K×Value=>decide (q.1=p)) (pre.map (fun x=>(x.1,x.2.1)))=none:=by
   rw[List.find?_eq_none];intro q c;obtain⟨y,hy,rfl⟩:=List.mem_map.1 c;simpa using b y hy
  rw[d];simp[a]
theorem bW.add{rows:List (Rw K)}{G:K→List BA}(h:bW rows G){p:K}(e:G p=[])(v:Value)(s:BA):bW (rows++[(p,v,[s])]) (fun q=>if q=p then G p++[s]else G q)∧cR (keyed rows) p v=keyed (rows++[(p,v,[s])]):=by
 have a:∀x∈rows,x.1≠p:=fun x hx he=>h.ne x hx (by rw[he];exact e);refine⟨⟨List.pairwise_append.2 ⟨h.nd,List.pairwise_singleton _ _,fun x hx y hy=>?_⟩,fun x hx=>?_,fun x hx=>?_,fun q d=>?_⟩,?_⟩
 ·simp at hy;rw[hy];exact a x hx
 ·rcases List.mem_append.1 hx with hx|hx
  ·rw[if_neg (a x hx)];exact h.val x hx
  ·simp at hx;rw[hx];simp[e]
 ·rcases List.mem_append.1 hx with hx|hx
  ·simp only[if_neg (a x hx)];exact h.ne x hx
  ·simp at hx;rw[hx];simp
 ·by_cases c:q=p
  ·exact⟨(p,v,[s]),by simp,c.symm⟩
  ·simp only[if_neg c]at d;obtain⟨x,hx,b⟩:=h.dom q d;exact⟨x,List.mem_append_left _ hx,b⟩
 ·rcases h.look p with⟨_,f⟩|⟨_,_,_,_,_,_,g,_⟩
  ·rw[EB f];simp[keyed]
  ·exact absurd e g
theorem bW.set{pre post:List (Rw K)}{x:Rw K}{G:K→List BA}(h:bW (pre++x::post) G){p:K}(e:x.1=p)(v:Value)(s:BA):bW (pre++(p,v,G p++[s])::post) (fun q=>if q=p then G p++[s]else G q)∧cR (keyed (pre++x::post)) p v=keyed (pre++(p,v,G p++[s])::post):=by
 obtain⟨i,j,f⟩:=List.pairwise_append.1 h.nd;obtain⟨k,l⟩:=List.pairwise_cons.1 j;have b:∀y∈pre,y.1≠p:=fun y hy=>by have:=f y hy x (List.mem_cons_self ..);rw[e]at this;exact this
 have a:∀y∈post,y.1≠p:=fun y hy he=>k y hy (by rw[e,he]);refine⟨⟨?_,fun y hy=>?_,fun y hy=>?_,fun q g=>?_⟩,?_⟩
 ·refine List.pairwise_append.2 ⟨i,List.pairwise_cons.2 ⟨fun y hy=>(a y hy).symm,l⟩,fun y hy z d=>?_⟩;rcases List.mem_cons.1 d with rfl|d
  ·exact b y hy
  ·exact f y hy z (List.mem_cons_of_mem _ d)
 ·rcases List.mem_append.1 hy with hy|hy
  ·rw[if_neg (b y hy)];exact h.val y (List.mem_append_left _ hy)
  ·rcases List.mem_cons.1 hy with rfl|hy
   ·simp
   ·rw[if_neg (a y hy)];exact h.val y (List.mem_append_right _ (List.mem_cons_of_mem _ hy))
 ·rcases List.mem_append.1 hy with hy|hy
  ·simp only[if_neg (b y hy)];exact h.ne y (List.mem_append_left _ hy)
  ·rcases List.mem_cons.1 hy with rfl|hy
   ·simp
   ·simp only[if_neg (a y hy)];exact h.ne y (List.mem_append_right _ (List.mem_cons_of_mem _ hy))
 ·by_cases c:q=p
  ·exact⟨_,List.mem_append_right _ (List.mem_cons_self ..),c.symm⟩
  ·simp only[if_neg c]at g;obtain⟨y,hy,hyp⟩:=h.dom q g;rcases List.mem_append.1 hy with hy|hy
   ·exact⟨y,List.mem_append_left _ hy,hyp⟩
   ·rcases List.mem_cons.1 hy with rfl|hy
    ·exact absurd (hyp.symm.trans e) c
    ·exact⟨y,List.mem_append_right _ (List.mem_cons_of_mem _ hy),hyp⟩
 ·have hs:(aJ (keyed (pre++x::post)) p).isSome=true:=eT.2 ⟨(x.1,x.2.1),by simp[keyed],e⟩;unfold cR;rw[if_pos hs];unfold keyed;have key:∀L:List (Rw K),(∀y∈L,y.1≠p)→(L.map (fun x=>(x.1,x.2.1))).map (fun q:K×Value=>if q.1=p then (p,v)else q)=L.map (fun x=>(x.1,x.2.1)):=fun L m=>by
   rw[List.map_map];refine List.map_congr_left fun y hy=>?_;simp[m y hy]
  rw[List.map_append,List.map_append,key pre b,List.map_cons,List.map_cons,key post a,List.map_append,List.map_cons];simp[e]
end
def jE(o:Ob)(i:Nat):List Pr:=(List.range i).map (fun j=>bC (sideAt o j))
def dY(l M:List Ob)(o:Ob)(i:Nat)(p:Pr):List BA:=jD l M p++(if p∈jE o i then [o.id]else [])
theorem iJ(o:Ob)(i:Nat)(p:Pr):p∈jE o (i+1)↔p∈jE o i∨p=bC (sideAt o i):=by
 unfold jE;rw[List.range_succ,List.map_append,List.mem_append];simp
theorem sw(l M:List Ob)(o:Ob)(p:Pr):dY l M o 0 p=jD l M p:=by simp[dY,jE]
theorem qA{l M:List Ob}{o:Ob}{i:Nat}(h:bC (sideAt o i)∈jE o i)(p:Pr):dY l M o (i+1) p=dY l M o i p:=by
 unfold dY;congr 1;by_cases c:p∈jE o i
 ·rw[if_pos c,if_pos ((iJ o i p).2 (.inl c))]
 ·rw[if_neg c,if_neg (fun a=>?_)];rcases(iJ o i p).1 a with a|a
  ·exact c a
  ·rw[a]at c;exact c h
theorem qB{l M:List Ob}{o:Ob}{i:Nat}(h:bC (sideAt o i)∉jE o i)(p:Pr):dY l M o (i+1) p=if p=bC (sideAt o i)then dY l M o i (bC (sideAt o i))++[o.id]else dY l M o i p:=by
 by_cases c:p=bC (sideAt o i)
 ·rw[if_pos c,c];unfold dY;rw[if_pos ((iJ o i _).2 (.inr rfl)),if_neg h,List.append_nil]
 ·rw[if_neg c];unfold dY;congr 1;by_cases c2:p∈jE o i
  ·rw[if_pos c2,if_pos ((iJ o i p).2 (.inl c2))]
  ·rw[if_neg c2,if_neg (fun a=>?_)];rcases(iJ o i p).1 a with a|a
   ·exact c2 a
   ·exact c a
theorem qC{l M:List Ob}{o:Ob}(hid:∀x∈M,x.id≠o.id)(i:Nat)(p:Pr):o.id∈dY l M o i p↔p∈jE o i:=by
 unfold dY;rw[List.mem_append];constructor
 ·rintro(h|h)
  ·obtain⟨x,a,_,b⟩:=iH.1 h;exact absurd b (hid x a)
  ·split at h
   ·rename_i c;exact c
   ·cases h
 ·intro h;rw[if_pos h];exact .inr (by simp)
theorem vM{l M:List Ob}{o:Ob}(h:bU l o=bw o)(p:Pr):dY l M o (br o) p=jD l (M++[o]) p:=by
 rw[sq,h];rfl
theorem oM{l M:List Ob}{o:Ob}(h:bU l o=[])(p:Pr):jD l (M++[o]) p=jD l M p:=by
 rw[sq,h];simp
theorem kT(l M:List Ob)(p:Pr):(jD l M p).length≤M.length:=by
 unfold jD;rw[List.length_map];exact List.length_filter_le _ _
abbrev Ln:=Pr×List BA
def bQ(l:List Ob):List Ln:=(af l).map (fun p=>(p,aB l p))
theorem EK{l:List Ob}{rows:List (Rw Pr)}(h:bW rows (aB l)){L:List (Rw Pr)}(hp:L.Perm rows)(hs:L.Pairwise (fun x y=>¬kC y.1 x.1)):L.map (fun x=>(x.1,x.2.2))=bQ l:=by
 have g:L.map (fun x=>(x.1,x.2.2))=(L.map Prod.fst).map (fun p=>(p,aB l p)):=by
  rw[List.map_map];refine List.map_congr_left fun x hx=>?_;simp[h.val x (hp.mem_iff.1 hx)]
 rw[g];unfold bQ;congr 1;refine yB l _ ?_ (fun p=>?_)
 ·rw[List.pairwise_map];have d:L.Pairwise (fun x y=>x.1≠y.1):=(hp.pairwise_iff (fun h e=>h e.symm)).2 h.nd;exact(hs.and d).imp (fun⟨a,b⟩=>by
   rcases Classical.em (kC _ _)with c|c
   ·exact c
   ·exact absurd (tT c (fun e=>b e.symm)) a)
 ·rw[List.mem_map];rw[←df,vL];constructor
  ·rintro⟨x,hx,rfl⟩;exact h.ne x (hp.mem_iff.1 hx)
  ·intro f;obtain⟨x,hx,e⟩:=h.dom p f;exact⟨x,hp.mem_iff.2 hx,e⟩
structure qD(rows C:List (Rw Pr))(left:Pr→Bool):Prop where
 sub:∀x∈C,x∈rows∧left x.1=false
 nd:C.Pairwise (fun x y=>x.1≠y.1)
 all:∀x∈rows,left x.1=false→x∈C
theorem vN(rows:List (Rw Pr)):qD rows [] (fun p=>(aJ (keyed rows) p).isSome):=
 ⟨fun _ h=>(by cases h),List.Pairwise.nil,fun x hx h=>by
  have:(aJ (keyed rows) x.1).isSome=true:=eT.2 ⟨_,List.mem_map.2 ⟨x,hx,rfl⟩,rfl⟩;rw[this]at h;cases h⟩
theorem qD.step{rows C:List (Rw Pr)}{left:Pr→Bool}{G:Pr→List BA}(h:qD rows C left)(hr:bW rows G){p:Pr}{v:Value}(g:left p=true)(d:aJ (keyed rows) p=some v):∃x,x.1=p∧x.2.1=v∧x∈rows∧qD rows (C++[x]) (fun y=>left y&& !decide (y=p)):=by
 rcases hr.look p with⟨_,i⟩|⟨pre,x,post,rfl,a,j,_,k⟩
 ·rw[i]at d;cases d
 ·rw[k]at d;cases d;have b:x∈pre++x::post:=List.mem_append_right _ (List.mem_cons_self ..);refine⟨x,a,rfl,b,fun y hy=>?_,?_,fun y hy c=>?_⟩
  ·rcases List.mem_append.1 hy with hy|hy
   ·exact⟨(h.sub y hy).1,by rw[(h.sub y hy).2];rfl⟩
   ·simp at hy;rw[hy];exact⟨b,by rw[a];simp⟩
  ·refine List.pairwise_append.2 ⟨h.nd,List.pairwise_singleton _ _,fun y hy z f e=>?_⟩;simp at f;rw[f,a]at e;have:=(h.sub y hy).2;rw[e,g]at this;cases this
  ·by_cases e:y.1=p
   ·obtain⟨o,l,m⟩:=List.pairwise_append.1 hr.nd;obtain⟨n,q⟩:=List.pairwise_cons.1 l;refine List.mem_append_right _ ?_;rcases List.mem_append.1 hy with hy|hy
    ·exact absurd (e.trans a.symm) (m y hy x (List.mem_cons_self ..))
    ·rcases List.mem_cons.1 hy with rfl|hy
     ·simp
     ·exact absurd (a.trans e.symm) (n y hy)
   ·rw[decide_eq_false e]at c;exact List.mem_append_left _ (h.all y hy (by simpa using c))
theorem qD.done{rows C:List (Rw Pr)}{left:Pr→Bool}{G:Pr→List BA}(h:qD rows C left)(hr:bW rows G)(a:∀x∈rows,left x.1=false):C.Perm rows:=by
 have b:C.Nodup:=h.nd.imp (fun h e=>h (by rw[e]));have c:rows.Nodup:=hr.nd.imp (fun h e=>h (by rw[e]));rw[List.perm_ext_iff_of_nodup b c];exact fun x=>⟨fun hx=>(h.sub x hx).1,fun hx=>h.all x hx (a x hx)⟩
structure EL(E:List (BA×Pt))(G:Pt→List BA)(N:Pr→Prop):Prop where
 mem:∀p s,s∈G p↔(s,p)∈E
 bad:∀q,N q↔∃e∈E,∃f∈E,e.2=f.2∧e.1≠f.1∧q=bC (e.1,f.1)
theorem EL.nil:EL [] (fun _=>[]) (fun _=>False):=⟨fun p s=>by simp,fun q=>by simp⟩
theorem EL.old{E:List (BA×Pt)}{G:Pt→List BA}{N:Pr→Prop}(h:EL E G N){s:BA}{p:Pt}(hs:s∈G p):EL (E++[(s,p)]) G N:=by
 have a:=(h.mem p s).1 hs;have key:∀x,x∈E++[(s,p)]↔x∈E:=fun x=>by
  rw[List.mem_append];constructor
  ·rintro(hx|hx)
   ·exact hx
   ·simp at hx;rw[hx];exact a
  ·exact .inl
 exact⟨fun q t=>by rw[key];exact h.mem q t,fun q=>by simp only[key];exact h.bad q⟩
theorem EL.new{E:List (BA×Pt)}{G:Pt→List BA}{N:Pr→Prop}(h:EL E G N){s:BA}{p:Pt}(hs:s∉G p):EL (E++[(s,p)]) (fun q=>if q=p then G p++[s]else G q) (fun q=>N q∨∃o∈G p,q=bC (o,s)):=by
 refine⟨fun q t=>?_,fun q=>?_⟩
 ·by_cases e:q=p
  ·subst e;simp only[if_true,List.mem_append,List.mem_singleton,h.mem,Prod.mk.injEq,and_true]
  ·simp only[if_neg e,List.mem_append,List.mem_singleton,h.mem,Prod.mk.injEq];constructor
   ·exact .inl
   ·rintro(b|⟨_,b⟩)
    ·exact b
    ·exact absurd b e
 ·rw[h.bad q];constructor
  ·rintro(⟨e,he,f,d,b⟩|⟨o,i,rfl⟩)
   ·exact⟨e,List.mem_append_left _ he,f,List.mem_append_left _ d,b⟩
   ·refine⟨(o,p),List.mem_append_left _ ((h.mem p o).1 i),(s,p),by simp,rfl,?_,rfl⟩;rintro rfl;exact hs i
  ·rintro⟨e,he,f,d,b,g,rfl⟩;rcases List.mem_append.1 he with c|c
   ·rcases List.mem_append.1 d with a|a
    ·exact .inl ⟨e,c,f,a,b,g,rfl⟩
    ·simp at a;subst a;right;obtain⟨j,k⟩:=e;simp only at b g;subst b;exact⟨j,(h.mem _ _).2 c,rfl⟩
   ·simp at c;subst c;rcases List.mem_append.1 d with a|a
    ·right;obtain⟨f1,f2⟩:=f;simp only at b g;subst b;exact⟨f1,(h.mem _ _).2 a,by simp only;exact yD _ _⟩
    ·simp at a;subst a;exact absurd rfl g
def kU(bl:List (Pr×Value))(N:Pr→Prop):Prop:=∀q,(aJ bl q).isSome=true↔N q
theorem kU.nil:kU [] (fun _=>False):=fun q=>by simp[aJ]
theorem kU.put{bl:List (Pr×Value)}{N:Pr→Prop}(h:kU bl N)(p:Pr)(v:Value):kU (cR bl p v) (fun q=>N q∨q=p):=fun q=>by
 rw[cC];by_cases e:q=p
 ·simp[e]
 ·simp[e,h q]
theorem kU.same{bl:List (Pr×Value)}{N N':Pr→Prop}(h:kU bl N)(e:∀q,N' q↔N q):kU bl N':=fun q=>(h q).trans (e q).symm
theorem AP(bl:List (Pr×Value))(p:Pr)(v:Value):(cR bl p v).length≤bl.length+1:=by
 rw[dF];split<;>omega
theorem sA(l:List Ob)(L:List Pr):(iG l L).length=2*L.length:=by
 induction L with
 |nil=>rfl
 |cons p L a=>
  show([(p.1,ar l p.1),(p.2,ar l p.2)]++iG l L).length=_;rw[List.length_append,a,List.length_cons];simp;omega
def badM(l:List Ob)(m:Mt)(q:Pr):Prop:=∃a b,(af l)[m.a]? =some a∧(af l)[m.b]? =some b∧¬(m.kind=1∧qw a b)∧∃x∈aB l a,∃y∈aB l b,q=bC (x,y)
theorem B8{l:List Ob}{G:Pt→List BA}{N:Pr→Prop}(h:EL (iG l (af l)) G N)(q:Pr):jX l q↔N q∨∃m∈ep (dw l),badM l m q:=by
 unfold jX;rw[h.bad q];have hs:∀i s,(dw l)[i]? =some s↔∃a,(af l)[i]? =some a∧cF l a=s:=fun i s=>by
  unfold dw;rw[List.getElem?_map,Option.map_eq_some_iff]
 constructor
 ·rintro(⟨p,hp,u,c,s,t,d,g,j,n,rfl⟩|⟨i,k,a,b,v,ha,hb,A,d,x,hx,y,hy,rfl⟩)
  ·exact .inl ⟨(s,ar l s),(jC l _ _).2 ⟨⟨p,hp,d⟩,rfl⟩,(t,ar l t),(jC l _ _).2 ⟨⟨u,c,g⟩,rfl⟩,n,j,rfl⟩
  ·exact .inr ⟨⟨i,k,meets (cF l a) (cF l b)⟩,eR.2 ⟨cF l a,cF l b,(hs _ _).2 ⟨a,ha,rfl⟩,(hs _ _).2 ⟨b,hb,rfl⟩,v,A,rfl⟩,a,b,ha,hb,d,x,hx,y,hy,rfl⟩
 ·rintro(⟨e,he,f,B,d,g,rfl⟩|⟨m,hm,a,b,ha,hb,d,x,hx,y,hy,rfl⟩)
  ·obtain⟨⟨p,hp,j⟩,n⟩:=(jC l _ _).1 he;obtain⟨⟨u,c,w⟩,z⟩:=(jC l _ _).1 B;exact .inl ⟨p,hp,u,c,e.1,f.1,j,w,g,by rw[←n,←z,d],rfl⟩
  ·obtain⟨s,t,g,j,n,w,z⟩:=eR.1 hm;obtain⟨C,o,rfl⟩:=(hs _ _).1 g;obtain⟨D,r,rfl⟩:=(hs _ _).1 j;rw[ha]at o;rw[hb]at r;cases o;cases r;exact .inr ⟨m.a,m.b,a,b,n,ha,hb,w,by rw[←z];exact d,x,hx,y,hy,rfl⟩
structure vO(bl:List (Pr×Value))(C:List Pr)(left:Pr→Bool):Prop where
 sub:∀x∈C,(aJ bl x).isSome=true∧left x=false
 nd:C.Nodup
 all:∀x,(aJ bl x).isSome=true→left x=false→x∈C
theorem vP(bl:List (Pr×Value)):vO bl [] (fun p=>(aJ bl p).isSome):=⟨fun _ h=>(by cases h),List.nodup_nil,fun x b a=>by rw[b]at a;cases a⟩
theorem vO.step{bl:List (Pr×Value)}{C:List Pr}{left:Pr→Bool}(h:vO bl C left){p:Pr}{v:Value}(c:left p=true)(d:aJ bl p=some v):vO bl (C++[p]) (fun y=>left y&& !decide (y=p)):=by
 refine⟨fun x hx=>?_,?_,fun x b a=>?_⟩
 ·rcases List.mem_append.1 hx with hx|hx
  ·obtain⟨b,a⟩:=h.sub x hx;exact⟨b,by rw[a];rfl⟩
  ·simp at hx;subst hx;exact⟨by rw[d];rfl,by simp⟩
 ·rw[List.nodup_append];refine⟨h.nd,by simp,fun x hx y hy e=>?_⟩;simp at hy;rw[hy]at e;have:=(h.sub x hx).2;rw[e,c]at this;cases this
 ·by_cases e:x=p
  ·rw[e];simp
  ·rw[decide_eq_false e]at a;exact List.mem_append_left _ (h.all x b (by simpa using a))
theorem B9{l:List Ob}{N:Pr→Prop}{left:Pt→Bool}{m:Mt}(hm:m∈ep (dw l))(q:Pr):(N q∨∃m'∈ep (dw l),(left ⟨(m'.a:Nat),(m'.b:Nat)⟩&& !decide ((⟨(m'.a:Nat),(m'.b:Nat)⟩:Pt)=⟨(m.a:Nat),(m.b:Nat)⟩))=false∧badM l m' q)↔(N q∨∃m'∈ep (dw l),left ⟨(m'.a:Nat),(m'.b:Nat)⟩=false∧badM l m' q)∨badM l m q:=by
 constructor
 ·rintro(h|⟨m',d,f,g⟩)
  ·exact .inl (.inl h)
  ·by_cases e:(⟨(m'.a:Nat),(m'.b:Nat)⟩:Pt)=⟨(m.a:Nat),(m.b:Nat)⟩
   ·right;injection e with o p;have i:m'.a=m.a:=O9;have j:m'.b=m.b:=O9;have:m'=m:=by
     obtain⟨s,t,k1,k2,_,_,k3⟩:=eR.1 d;obtain⟨r,u,k,n,_,_,c⟩:=eR.1 hm;rw[i,k]at k1;rw[j,n]at k2;cases k1;cases k2;cases m;cases m';simp only at i j k3 c;rw[i,j,k3,c]
    rw[←this];exact g
   ·rw[decide_eq_false e]at f;exact .inl (.inr ⟨m',d,by simpa using f,g⟩)
 ·rintro((h|⟨m',d,f,g⟩)|h)
  ·exact .inl h
  ·exact .inr ⟨m',d,by rw[f];rfl,g⟩
  ·exact .inr ⟨m,hm,by simp,h⟩
