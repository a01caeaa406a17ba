/-
  Objects and maps as plain data, and when they are valid (layers 11 and 12). No program in sight.
-/
import Derived.Test.YtfkgjbdeicggaaaGreatZH
namespace Go.Proofs.Pn
open Go.Proofs.Px
structure Tg where
 k:ByteArray
 v:ByteArray
def rA(last:ByteArray):List Tg→Bool
 | []=>true
 |t::l=>name t.k.data.toList&& !Go.Op.bytesLess t.k.toList last.toList&& !(t.k.toList ==last.toList)&& !t.v.toList.isEmpty&&decide (t.v.size≤200)&&rA t.k l
def fV(l:List Tg):Bool:=rA ⟨#[]⟩ l&&decide (l.length≤60)
structure Ob where
 id:ByteArray
 kind:Int
 x:Int
 y:Int
 refs:List ByteArray
 tags:List Tg
def dr(s:ByteArray):List ByteArray→Bool
 | []=>false
 |x::l=>x.toList ==s.toList||dr s l
def eH(k:Int):Nat:=if k=2 then 2 else if k=3 then 3 else if k=4 then 1 else if k=5 then 3 else 0
def jV(k:Int)(seen:List ByteArray)(last s:ByteArray):Bool:=k ==2&&s.toList ==last.toList||k ==3&&dr s seen|| !name s.data.toList
def dX(k:Int):List ByteArray→ByteArray→List ByteArray→Bool
 |_,_,[]=>true
 |seen,last,s::l=> !jV k seen last s&&dX k (s::seen) s l
def mg(x y:Int):Bool:=decide (0≤x∧x<1048576∧0≤y∧y<1048576)
def kO(o:Ob):Bool:=decide (1≤o.kind∧o.kind≤5)&&name o.id.data.toList&&fV o.tags&&decide (eH o.kind≤o.refs.length)&&decide (o.refs.length≤2000)
def mh(o:Ob):Bool:=if o.kind=1 then decide (o.refs.length=0)&&mg o.x o.y else if o.kind=5 then decide (o.refs.length=3)&&decide (o.x=0∧o.y=0)else decide (o.x=0∧o.y=0)
def lJ(o:Ob):Bool:=kO o&&dX o.kind [] ⟨#[]⟩ o.refs&&mh o
def mC(last:ByteArray):List Ob→Bool
 | []=>true
 |o::l=>lJ o&& !Go.Op.bytesLess o.id.toList last.toList&& !(o.id.toList ==last.toList)&&mC o.id l
def aZ(l:List Ob):Bool:=mC ⟨#[]⟩ l&&decide (l.length≤1000000)
def BW(o:Ob):Prop:=o.id.size≤100000∧o.refs.length≤100000∧(∀s∈o.refs,s.size≤100000)∧o.tags.length≤100000∧∀t∈o.tags,t.k.size≤Go.maxLen∧t.v.size≤Go.maxLen
end Go.Proofs.Pn
namespace Go.Proofs.Pm
open Go Go.Maps Go.ChangeMaps
def hv(v:Value):Option (DataW Value×List MemPlace):=some (.held v,[])
structure dS(P:Program)(k:TypeId)(K:Type) where
 val:K→Value
 lit:K→Lit
 ok:K→Prop
 keyed:Keyed P k
 key:∀x,ok x→keyOf P k (val x)=some (lit x)
 inj:∀x y,ok x→ok y→lit x=lit y→x=y
section
variable {P:Program} {k:TypeId} {K:Type} [DecidableEq K]
def aJ(l:List (K×Value))(x:K):Option Value:=(l.find? (fun p=>p.1=x)).map (·.2)
def cR(l:List (K×Value))(x:K)(v:Value):List (K×Value):=
 if (aJ l x).isSome then l.map (fun p=>if p.1=x then (x,v)else p)else l++[(x,v)]
theorem oH{l:List (K×Value)}{x:K}:aJ l x=none↔∀p∈l,p.1≠x:=by
 simp[aJ]
theorem eT{l:List (K×Value)}{x:K}:(aJ l x).isSome=true↔∃p∈l,p.1=x:=by
 simp[aJ]
theorem vE{l m:List (K×Value)}{x:K}:aJ (l++m) x=(aJ l x).or (aJ m x):=by
 simp only[aJ,List.find?_append];cases List.find? (fun p=>decide (p.1=x)) l<;>rfl
theorem EA(l:List (K×Value))(x y:K)(v:Value):aJ (l.map (fun p=>if p.1=x then (x,v)else p)) y=if y=x then (aJ l x).map (fun _=>v)else aJ l y:=by
 induction l with
 |nil=>simp[aJ]
 |cons p l a=>
  simp only[aJ,List.map_cons,List.find?_cons]at a ⊢;by_cases hp:p.1=x
  ·by_cases hy:y=x
   ·simp[hp,hy]
   ·have b:¬x=y:=fun e=>hy e.symm;simp only[hp,if_true,b,decide_false,hy,if_false]at a ⊢;exact a
  ·by_cases hy:y=x
   ·subst hy;simp only[hp,if_false,decide_false,if_true]at a ⊢;exact a
   ·by_cases b:p.1=y
    ·have c:¬y=x:=hy;simp only[if_false,b,decide_true,c]
    ·simp only[hp,if_false,b,decide_false,hy]at a ⊢;exact a
theorem cC(l:List (K×Value))(x y:K)(v:Value):aJ (cR l x v) y=if y=x then some v else aJ l y:=by
 unfold cR;cases h:aJ l x with
 |none=>
  simp only[Option.isSome_none,Bool.false_eq_true,if_false];rw[vE];by_cases hy:y=x
  ·subst hy;rw[h,if_pos rfl];simp[aJ]
  ·rw[if_neg hy];have:aJ [(x,v)] y=none:=by
    rw[oH];intro p hp e;simp at hp;subst hp;exact hy e.symm
   rw[this,Option.or_none]
 |some u=>
  simp only[Option.isSome_some,if_true];rw[EA,h];rfl
theorem EB{l:List (K×Value)}{x:K}(h:aJ l x=none)(v:Value):cR l x v=l++[(x,v)]:=by simp[cR,h]
theorem dF(l:List (K×Value))(x:K)(v:Value):(cR l x v).length=l.length+(if (aJ l x).isSome then 0 else 1):=by
 unfold cR;split<;>simp
variable {H:Type}
theorem BX{l:List (K×Value)}{x:K}{v:Value}{p:K×Value}(h:p∈cR l x v):p.1=x∨p∈l:=by
 unfold cR at h;split at h
 ·obtain⟨q,a,rfl⟩:=List.mem_map.1 h;by_cases e:q.1=x
  ·simp[e]
  ·simp only[e,if_false];exact .inr a
 ·rcases List.mem_append.1 h with h|h
  ·exact .inr h
  ·simp at h;exact .inl (by rw[h])
structure dV(B:dS P k K)(w:World)(b:Nat)(l:List (K×Value)):Prop where
 own:∃D,w.ownsMap P k hv b l.length D∧Maps.size D=l.length∧(∀x,B.ok x→Maps.has D (B.lit x)=(aJ l x).isSome)∧(∀x,B.ok x→∀v,aJ l x=some v→∀z,D.atKey (B.lit x) z= .held v)∧(∀q,Maps.has D q=true→∃p∈l,q=B.lit p.1)
 okk:∀p∈l,B.ok p.1
theorem si{D:DataW H}{q:Lit}(h:Maps.has D q=false)(z:DataW H):D.atKey q z=z:=by
 cases D<;>try rfl
 rename_i es;have a:∀p∈es,p.1.sameKey q=false:=by
  have:=h;rw[Maps.has_eq,List.any_eq_false]at this;intro p hp;simpa using this p hp
 show(match es.find? (fun p=>p.1.sameKey q)with|some p=>p.2|none=>z)=z;rw[List.find?_eq_none.2 (fun p hp=>by rw[a p hp];decide)]
theorem cK(B:dS P k K)(w:World):dV B (w.alloc (.map #[] 0)) w.heap.size []:=
 ⟨⟨.map [],World.ownsMap_made w P k hv,rfl,fun _ _=>rfl,fun _ _ v h=>(by cases h),fun q h=>(by cases h)⟩,fun _ h=>(by cases h)⟩
theorem dV.lt{B:dS P k K}{w:World}{b:Nat}{l:List (K×Value)}(h:dV B w b l):b<w.heap.size:=by
 obtain⟨⟨D,h,_⟩,_⟩:=h;exact h.lt
theorem dV.kept{B:dS P k K}{w w':World}{row:Option Nat}{b:Nat}{l:List (K×Value)}(h:dV B w b l)(c:w.grownBy w' row)(a:some b≠row):dV B w' b l:=by
 obtain⟨⟨D,d,e⟩,f⟩:=h;exact⟨⟨D,d.kept c a,e⟩,f⟩
theorem dV.same{B:dS P k K}{w w':World}{b:Nat}{l:List (K×Value)}(h:dV B w b l)(e:w'.heap[b]? =w.heap[b]?):dV B w' b l:=by
 obtain⟨⟨D,⟨es,clock,a,c⟩,d⟩,f⟩:=h;exact⟨⟨D,⟨es,clock,e.trans a,c⟩,d⟩,f⟩
theorem dV.alloc{B:dS P k K}{w:World}{b:Nat}{l:List (K×Value)}(h:dV B w b l)(o:Obj):dV B (w.alloc o) b l:=h.kept (World.grownBy_alloc w o none) (by simp)
theorem dV.setCell{B:dS P k K}{w:World}{b:Nat}{l:List (K×Value)}(h:dV B w b l){a:Addr}(ha:b≠a.block)(u:Value):dV B (w.setCell a u) b l:=by
 obtain⟨⟨D,c,d⟩,e⟩:=h;exact⟨⟨D,c.setCell ha u,d⟩,e⟩
theorem dV.drew{B:dS P k K}{w:World}{b:Nat}{l:List (K×Value)}(h:dV B w b l):dV B w.drew b l:=by
 obtain⟨⟨D,a,c⟩,d⟩:=h;exact⟨⟨D,a,c⟩,d⟩
theorem dV.look{B:dS P k K}{w:World}{b:Nat}{l:List (K×Value)}(h:dV B w b l){t e:TypeId}(g:P.underlying t=some (.map k e)){z:Value}(i:∀w:World,(zeroValue e).run P w= .ok z w){x:K}(hx:B.ok x):(Instr.lookup t (.map (some b)) (B.val x) false).run P w= .ok ((aJ l x).getD z) w:=by
 obtain⟨⟨D,j,_,m,n,_⟩,_⟩:=h;obtain⟨v,ps,c,o⟩:=j.lookup B.keyed g (i w) (zd:=.held z) (zp:=[]) rfl (B.key x hx);have e:(aJ l x).getD z=v:=by
  have a:(DataW.held v:DataW Value)=D.atKey (B.lit x) (.held z):=by simpa[hv]using congrArg (Option.map Prod.fst) o
  cases d:aJ l x with
  |none=>
   have f:=m x hx;rw[d]at f;rw[si f]at a;simp at a;exact a.symm
  |some u=>
   rw[n x hx u d]at a;simp at a;exact a.symm
 rw[e];exact c
theorem dV.look_ok{B:dS P k K}{w:World}{b:Nat}{l:List (K×Value)}(h:dV B w b l){t e:TypeId}(i:P.underlying t=some (.map k e)){z:Value}(j:∀w:World,(zeroValue e).run P w= .ok z w){x:K}(hx:B.ok x):(Instr.lookup t (.map (some b)) (B.val x) true).run P w= .ok (.tuple #[(aJ l x).getD z,.bool (aJ l x).isSome]) w:=by
 obtain⟨⟨D,m,_,d,n,_⟩,_⟩:=h;obtain⟨v,ps,a,o⟩:=m.look_ok B.keyed i (j w) (zd:=.held z) (zp:=[]) rfl (B.key x hx);rw[d x hx]at a;have e:(aJ l x).getD z=v:=by
  have c:(DataW.held v:DataW Value)=D.atKey (B.lit x) (.held z):=by simpa[hv]using congrArg (Option.map Prod.fst) o
  cases f:aJ l x with
  |none=>
   have g:=d x hx;rw[f]at g;rw[si g]at c;simp at c;exact c.symm
  |some u=>
   rw[n x hx u f]at c;simp at c;exact c.symm
 rw[e];exact a
theorem dV.len{B:dS P k K}{w:World}{b:Nat}{l:List (K×Value)}(h:dV B w b l){t e:TypeId}(a:P.underlying t=some (.map k e))(ty:TypeId):(Builtin.len_ #[t] ty #[.map (some b)]).run P w= .ok (.int .i64 l.length) w:=by
 obtain⟨⟨D,c,d,_⟩,_⟩:=h;rw[←d];exact c.len a ty
omit [DecidableEq K]in
theorem tR{B:dS P k K}{x:K}(hx:B.ok x):WideAt.IsKeyLit (B.lit x):=B.keyed.key (B.key x hx)
theorem BY{D:DataW H}(j:Tidy D)(q:Lit)(d:DataW H):Maps.size (D.put q d)=Maps.size D+(if Maps.has D q then 0 else 1):=by
 obtain⟨es,rfl,hp⟩:=j;show(DataW.insert (q,d) (es.filter fun p=> !p.1.sameKey q)).length=es.length+(if es.any (fun p=>p.1.sameKey q)then 0 else 1);rw[length_insert];have key:∀es:List (Lit×DataW H),es.Pairwise (fun p q=>p.1≠q.1)→(es.filter fun p=> !p.1.sameKey q).length+1=es.length+(if es.any (fun p=>p.1.sameKey q)then 0 else 1):=by
  intro es hp;induction es with
  |nil=>rfl
  |cons p es c=>
   obtain⟨l,m⟩:=List.pairwise_cons.1 hp;have c:=c m;by_cases f:p.1.sameKey q=true
   ·have g:p.1=q:=WideAt.sameKey_eq f;have h:es.any (fun p=>p.1.sameKey q)=false:=by
     rw[List.any_eq_false];intro r hr;have:=sameKey_ne (a:=r.1) (b:=q) (fun e=>l r hr (by rw[g,e]));simp[this]
    rw[h]at c;simp only[List.filter_cons,f,List.any_cons,Bool.true_or,if_true,Bool.not_true,Bool.false_eq_true,if_false,List.length_cons]at c ⊢;omega
   ·(have i:p.1.sameKey q=false:=by simpa using f);simp only[List.filter_cons,i,List.any_cons,Bool.false_or,Bool.not_false,if_true,List.length_cons]at c ⊢;omega
 exact key es hp
theorem dV.store{B:dS P k K}{w:World}{b:Nat}{l:List (K×Value)}(h:dV B w b l){t e:TypeId}(s:P.underlying t=some (.map k e))(A:l.length<maxLen){x:K}(hx:B.ok x)(v:Value):∃w',(Instr.mapUpdate t (.map (some b)) (B.val x) v).run P w= .ok () w'∧dV B w' b (cR l x v)∧w.mapTurned w' b:=by
 obtain⟨⟨D,m,C,n,E,F⟩,G⟩:=h;obtain⟨w',a,I,g⟩:=m.store B.keyed s A (d:=.held v) (ps:=[]) (B.key x hx) rfl;have i:=m.tidy B.keyed;have c:Maps.size (D.put (B.lit x) (.held v))=(cR l x v).length:=by
  rw[BY i,dF,n x hx,C]
 refine⟨w',a,⟨⟨_,?_,c,?_,?_,?_⟩,?_⟩,g⟩
 ·obtain⟨es,clock,J,f,N,o⟩:=I;refine⟨es,clock,J,f,?_,o⟩;rw[←c,o];simp[Maps.size,length_sorted]
 ·intro y hy;rw[cC];by_cases e:y=x
  ·subst e;rw[if_pos rfl,has_put_same i.isMap (tR hx)];rfl
  ·rw[if_neg e,has_put_other (fun f=>e (B.inj y x hy hx f)),n y hy]
 ·intro y hy u hu z;rw[cC]at hu;by_cases e:y=x
  ·subst e;rw[if_pos rfl]at hu;cases hu;exact atKey_put_same i.isMap (tR hx) _ _
  ·rw[if_neg e]at hu;rw[atKey_put_other (fun f=>e (B.inj y x hy hx f))];exact E y hy u hu z
 ·intro q r;by_cases e:q=B.lit x
  ·subst e;(have:(aJ (cR l x v) x).isSome=true:=by rw[cC,if_pos rfl];rfl);obtain⟨p,hp,e⟩:=eT.1 this;exact⟨p,hp,by rw[e]⟩
  ·rw[has_put_other e]at r;obtain⟨p,hp,rfl⟩:=F q r;have:(aJ (cR l x v) p.1).isSome=true:=by
    rw[cC];split
    ·rfl
    ·exact eT.2 ⟨p,hp,rfl⟩
   obtain⟨L,j,M⟩:=eT.1 this;exact⟨L,j,by rw[M]⟩
 ·intro p hp;rcases BX hp with e|e
  ·rw[e];exact hx
  ·exact G p e
end
def strKeys(P:Program)(k:TypeId)(hk:P.underlying k=some .string):dS P k ByteArray where
 val:=.string
 lit:=fun s=>.string s.data.toList
 ok:=fun s=>s.size≤maxLen
 keyed:=string_keyed hk
 key:=fun _ h=>WideMaps.keyOf_string_mk hk h
 inj:=fun x y _ _ e=>by
  simp only[Lit.string.injEq]at e;cases x;cases y;simp at e;rw[e]
end Go.Proofs.Pm
namespace Go.Proofs.Pn
open Go Go.Proofs.Px
theorem toList_inj{a b:ByteArray}:a.toList=b.toList↔a=b:=by
 rw[ByteArray.toList_eq,ByteArray.toList_eq];constructor
 ·intro h;cases a;cases b;simp at h;rw[h]
 ·rintro rfl;rfl
theorem sj(s x:ByteArray)(l:List ByteArray):dr s (x::l)=(x.toList ==s.toList||dr s l):=rfl
theorem fW(s:ByteArray)(l:List ByteArray):dr s l=true↔s∈l:=by
 induction l with
 |nil=>simp[dr]
 |cons x l a=>
  rw[sj,Bool.or_eq_true,a,beq_iff_eq,List.mem_cons,toList_inj];constructor
  ·rintro(h|h)
   ·exact .inl h.symm
   ·exact .inr h
  ·rintro(h|h)
   ·exact .inl h.symm
   ·exact .inr h
def kP(l:List Ob):List Ob:=l.filter (fun o=>decide (o.kind=1))
def cA(l:List Ob)(s:ByteArray):Option Ob:=l.find? (fun o=>decide (o.id=s))
def isNode(l:List Ob)(s:ByteArray):Bool:=(cA (kP l) s).isSome
def EC(l:List Ob)(o:Ob):Bool:=decide (o.kind=2)&&o.refs.all (isNode l)
def qp(l:List Ob):List Ob:=l.filter (EC l)
def AO(l:List Ob)(s:ByteArray):Option (List ByteArray):=(cA (qp l) s).map Ob.refs
theorem kQ(a:List UInt8):Go.Op.bytesLess a a=false:=by
 induction a with
 |nil=>rfl
 |cons c a b=>simp[Go.Op.bytesLess,b]
theorem mD{a b c:List UInt8}(e:Go.Op.bytesLess a b=true)(d:Go.Op.bytesLess b c=true):Go.Op.bytesLess a c=true:=by
 induction a generalizing b c with
 |nil=>cases c with
  |nil=>cases b<;>simp[Go.Op.bytesLess]at d
  |cons z c=>rfl
 |cons x a f=>cases b with
  |nil=>simp[Go.Op.bytesLess]at e
  |cons y b=>cases c with
   |nil=>simp[Go.Op.bytesLess]at d
   |cons z c=>
    simp only[Go.Op.bytesLess,Bool.or_eq_true,decide_eq_true_eq,Bool.and_eq_true,beq_iff_eq]at e d ⊢;rcases e with e|⟨rfl,e⟩
    ·rcases d with d|⟨rfl,d⟩
     ·exact .inl (UInt8.lt_trans e d)
     ·exact .inl e
    ·rcases d with d|⟨rfl,d⟩
     ·exact .inl d
     ·exact .inr ⟨rfl,f e d⟩
theorem qs{a b:List UInt8}(c:Go.Op.bytesLess a b=false)(d:a≠b):Go.Op.bytesLess b a=true:=by
 induction a generalizing b with
 |nil=>cases b with
  |nil=>exact(d rfl).elim
  |cons y b=>simp[Go.Op.bytesLess]at c
 |cons x a f=>cases b with
  |nil=>rfl
  |cons y b=>
   simp only[Go.Op.bytesLess,Bool.or_eq_false_iff,decide_eq_false_iff_not,Bool.and_eq_false_iff,beq_eq_false_iff_ne]at c;simp only[Go.Op.bytesLess,Bool.or_eq_true,decide_eq_true_eq,Bool.and_eq_true,beq_iff_eq];by_cases e:x=y
   ·subst e;right;refine⟨rfl,f ?_ (fun e=>d (by rw[e]))⟩;rcases c.2 with h|h
    ·exact(h rfl).elim
    ·exact h
   ·left;rcases UInt8.lt_or_le y x with h|h
    ·exact h
    ·rcases UInt8.lt_or_eq_of_le h with h|h
     ·exact(c.1 h).elim
     ·exact(e h).elim
theorem gE{a b:List UInt8}(h:Go.Op.bytesLess a b=true):Go.Op.bytesLess b a=false∧a≠b:=by
 refine⟨?_,?_⟩
 ·cases e:Go.Op.bytesLess b a with
  |false=>rfl
  |true=>have:=mD h e;rw[kQ]at this;cases this
 ·rintro rfl;rw[kQ]at h;cases h
def H4(a b:Ob):Prop:=Go.Op.bytesLess a.id.toList b.id.toList=true
theorem oI(l:List Ob)(last:ByteArray)(h:mC last l=true):l.Pairwise H4∧(∀o∈l,Go.Op.bytesLess last.toList o.id.toList=true)∧∀o∈l,lJ o=true:=by
 induction l generalizing last with
 |nil=>exact⟨.nil,(fun t a=>nomatch a),fun t a=>nomatch a⟩
 |cons o l d=>
  simp only[mC,Bool.and_eq_true,Bool.not_eq_true']at h;obtain⟨⟨⟨f,g⟩,b⟩,i⟩:=h;obtain⟨i1,i2,i3⟩:=d o.id i;have c:Go.Op.bytesLess last.toList o.id.toList=true:=qs g (by intro e;rw[e]at b;simp at b);refine⟨List.pairwise_cons.2 ⟨fun x hx=>i2 x hx,i1⟩,fun x hx=>?_,fun x hx=>?_⟩
  ·rcases List.mem_cons.1 hx with e|e
   ·rw[e];exact c
   ·exact mD c (i2 x e)
  ·rcases List.mem_cons.1 hx with e|e
   ·rw[e];exact f
   ·exact i3 x e
theorem GK{a b:Ob}(h:H4 a b):a.id≠b.id:=fun e=>(gE h).2 (by rw[e])
def uniq(l:List Ob):Prop:=l.Pairwise (fun a b=>a.id≠b.id)
theorem bP{l:List Ob}(h:aZ l=true):uniq l:=by
 unfold aZ at h;rw[Bool.and_eq_true]at h;exact(oI l _ h.1).1.imp (fun h=>GK h)
theorem uniq.eq{l:List Ob}(h:uniq l){a b:Ob}(ha:a∈l)(hb:b∈l)(e:a.id=b.id):a=b:=by
 induction l with
 |nil=>cases ha
 |cons o l g=>
  obtain⟨f,i⟩:=List.pairwise_cons.1 h;rcases List.mem_cons.1 ha with d|d
  ·rcases List.mem_cons.1 hb with c|c
   ·rw[d,c]
   ·exact(f b c (by rw[←d];exact e)).elim
  ·rcases List.mem_cons.1 hb with c|c
   ·exact(f a d (by rw[←c];exact e.symm)).elim
   ·exact g i d c
theorem uniq.filter{l:List Ob}(h:uniq l)(p:Ob→Bool):uniq (l.filter p):=List.Pairwise.filter p h
theorem jz{l:List Ob}(h:uniq l){o:Ob}(a:o∈l):cA l o.id=some o:=by
 cases e:cA l o.id with
 |none=>
  have:=List.find?_eq_none.1 e o a;simp at this
 |some x=>
  have b:=List.mem_of_find?_eq_some e;have c:=List.find?_some e;rw[h.eq b a (by simpa using c)]
theorem db{l:List Ob}{s:ByteArray}{o:Ob}(h:cA l s=some o):o∈l∧o.id=s:=⟨List.mem_of_find?_eq_some h,by have:=List.find?_some h;simpa using this⟩
theorem qt{l:List Ob}{s:ByteArray}(h:cA l s=none):∀o∈l,o.id≠s:=by
 intro o a e;have:=List.find?_eq_none.1 h o a;simp[e]at this
def tS(l:List Ob)(k:Int):Nat→List ByteArray→Bool
 |_,[]=>true
 |i,s::r=>(if k=5∧i=1 then isNode l s else (AO l s).isSome)&&tS l k (i+1) r
def ED(l:List Ob)(o:Ob):Bool:=tS l o.kind 0 o.refs
theorem iD{l:List Ob}(h:aZ l=true):∀o∈l,lJ o=true:=by
 unfold aZ at h;rw[Bool.and_eq_true]at h;exact(oI l _ h.1).2.2
theorem ij{o:Ob}(h:lJ o=true):eH o.kind≤o.refs.length:=by
 unfold lJ kO at h;simp only[Bool.and_eq_true,decide_eq_true_eq]at h;exact h.1.1.1.2
abbrev BA:=ByteArray
end Go.Proofs.Pn
namespace Go.Proofs.Pm
open Go Go.Maps Go.ChangeMaps
open Go.WideElems (Fit rd rg pl rd_val rd_key rg_of)
end Go.Proofs.Pm
namespace Go.Proofs.Pn
open Go Go.Proofs.Px
def yt(l:List BA):Bool:=l.all (fun s=>decide (s.size≤60))
def vF(l:List Tg):Bool:=l.all (fun t=>decide (IntKind.i64.wrap ((t.k.size:Int)+t.v.size)≤300))
def l9(o:Ob):Bool:=decide (o.refs.length≤12)&&decide (o.tags.length≤20)&&decide (o.id.size≤60)&&(yt o.refs&&vF o.tags)
def rB(n:Nat)(l:List Ob):Bool:=decide (l.length≤n)&&l.all l9
theorem GL{n:Nat}{l:List Ob}(h:rB n l=true)(hs:∀o∈l,∀t∈o.tags,t.k.size≤maxLen∧t.v.size≤maxLen):l.length≤n∧∀o∈l,BW o:=by
 unfold rB at h;rw[Bool.and_eq_true,decide_eq_true_eq,List.all_eq_true]at h;refine⟨h.1,fun o b=>?_⟩;have a:=h.2 o b;unfold l9 yt at a;simp only[Bool.and_eq_true,decide_eq_true_eq,List.all_eq_true]at a;obtain⟨⟨⟨d,e⟩,f⟩,c,_⟩:=a;exact⟨O9,O9,fun s hs=>by have:=c s hs;omega,O9,hs o b⟩
def dv(s:BA):List Ob→Option Nat
 | []=>none
 |o::l=>if o.id=s then some 0 else (dv s l).map (·+1)
def jA(l:List Ob)(s:BA):Int:=match dv s l with|some i=>(i:Int)|none=> -1
theorem eU(s:BA)(l:List Ob):∀i,dv s l=some i→∃o,l[i]? =some o∧o.id=s∧i<l.length∧cA l s=some o:=by
 induction l with
 |nil=>intro i h;cases h
 |cons x l b=>
  intro i h;unfold dv at h;by_cases e:x.id=s
  ·rw[if_pos e]at h;cases h;exact⟨x,rfl,e,by simp,by simp[cA,e]⟩
  ·rw[if_neg e]at h;obtain⟨j,hj,rfl⟩:=Option.map_eq_some_iff.1 h;obtain⟨o,c,d,f,a⟩:=b j hj;refine⟨o,by simpa using c,d,by simp;omega,?_⟩;unfold cA at a ⊢;rw[List.find?_cons,decide_eq_false e];exact a
theorem iE(s:BA)(l:List Ob)(h:dv s l=none):∀o∈l,o.id≠s:=by
 induction l with
 |nil=>intro o a;cases a
 |cons x l b=>
  unfold dv at h;by_cases e:x.id=s
  ·rw[if_pos e]at h;cases h
  ·rw[if_neg e]at h;intro o a;rcases List.mem_cons.1 a with rfl|a
   ·exact e
   ·exact b (by simpa using h) o a
theorem EE{l:List Ob}(hu:uniq l){o:Ob}(a:o∈l):∃i,dv o.id l=some i∧l[i]? =some o:=by
 cases h:dv o.id l with
 |none=>exact(iE _ l h o a rfl).elim
 |some i=>
  obtain⟨d,b,c,_,_⟩:=eU _ l i h;refine⟨i,rfl,?_⟩;rw[b,hu.eq (List.mem_of_getElem? b) a c]
def fK(a b:BA):Bool:=Go.Op.bytesLess a.toList b.toList
theorem eV{l:List Ob}(h:aZ l=true){i j:Nat}{a b:Ob}(c:i<j)(ha:l[i]? =some a)(hb:l[j]? =some b):fK a.id b.id=true:=by
 unfold aZ at h;rw[Bool.and_eq_true]at h;have hp:=(oI l _ h.1).1;obtain⟨d,rfl⟩:=List.getElem?_eq_some_iff.1 ha;obtain⟨e,rfl⟩:=List.getElem?_eq_some_iff.1 hb;exact(List.pairwise_iff_getElem.1 hp) i j d e c
theorem bj(a:BA):fK a a=false:=kQ _
theorem dg{a b c:BA}(d:fK a b=true)(e:fK b c=true):fK a c=true:=mD d e
theorem EF{l:List Ob}(h:aZ l=true){s:BA}{k:Nat}(q:k≤l.length)(m:∀(i:Nat) o,i<k→l[i]? =some o→fK o.id s=true)(n:∀(i:Nat) o,k≤i→l[i]? =some o→fK o.id s=false):(∀o,l[k]? =some o→o.id=s→jA l s=k)∧((∀o,l[k]? =some o→o.id≠s)→jA l s= -1):=by
 constructor
 ·intro o b e;subst e;obtain⟨i,d,a⟩:=EE (bP h) (List.mem_of_getElem? b);unfold jA;rw[d];show(i:Int)=k;rcases Nat.lt_trichotomy i k with c|c|c
  ·have:=eV h c a b;rw[bj]at this;cases this
  ·rw[c]
  ·have:=eV h c b a;rw[bj]at this;cases this
 ·intro f;unfold jA;cases e:dv s l with
  |none=>rfl
  |some i=>
   obtain⟨o,g,p,r,_⟩:=eU s l i e;exfalso;subst p;rcases Nat.lt_trichotomy i k with c|c|c
   ·have:=m i o c g;rw[bj]at this;cases this
   ·subst c;exact f o g rfl
   ·obtain⟨x,hx⟩:∃x,l[k]? =some x:=⟨_,List.getElem?_eq_getElem O9⟩;have j:=eV h c hx g;rw[n k x (Nat.le_refl _) hx]at j;cases j
theorem BZ{l:List Ob}(h:aZ l=true){s:BA}{k:Nat}{x:Ob}(hx:l[k]? =some x)(a:fK x.id s=true):∀(i:Nat) o,i<k+1→l[i]? =some o→fK o.id s=true:=by
 intro i o hi b;rcases Nat.lt_or_ge i k with c|c
 ·exact dg (eV h c b hx) a
 ·obtain rfl:i=k:=by omega
  rw[b]at hx;cases hx;exact a
theorem yu{l:List Ob}(h:aZ l=true){s:BA}{k:Nat}{x:Ob}(hx:l[k]? =some x)(a:fK x.id s=false):∀(i:Nat) o,k≤i→l[i]? =some o→fK o.id s=false:=by
 intro i o hi b;rcases Nat.lt_or_ge k i with c|c
 ·cases e:fK o.id s with
  |false=>rfl
  |true=>
   have:=dg (eV h c hx b) e;rw[a]at this;cases this
 ·obtain rfl:i=k:=by omega
  rw[b]at hx;cases hx;exact a
def jB(k:Int)(i:Nat):Int:=if k=4∨(k=5∧i≠1)then 2 else 1
def dz(l:List Ob)(o:Ob):Bool:=
 if o.kind=1 then true else if o.kind=2∨o.kind=3 then o.refs.all (isNode l)else ED l o
def kR(l:List Ob)(k:Int)(i:Nat)(s:BA):Bool:=
 match cA l s with
 |none=>false
 |some p=>decide (p.kind=jB k i)&&dz l p
def mc(l:List Ob)(k:Int):Nat→List BA→Bool
 |_,[]=>true
 |i,s::r=>kR l k i s&&mc l k (i+1) r
theorem oJ{l:List Ob}(h:uniq l)(s:BA):isNode l s=(match cA l s with|none=>false|some p=>decide (p.kind=1)):=by
 unfold isNode;cases e:cA l s with
 |none=>
  have:cA (kP l) s=none:=by
   cases d:cA (kP l) s with
   |none=>rfl
   |some p=>
    obtain⟨a,b⟩:=db d;exact(qt e p (List.mem_filter.1 a).1 b).elim
  rw[this];rfl
 |some p=>
  obtain⟨a,b⟩:=db e;show(cA (kP l) s).isSome=decide (p.kind=1);by_cases c:p.kind=1
  ·have:p∈kP l:=List.mem_filter.2 ⟨a,by simpa using c⟩;rw[←b,show cA (kP l) p.id=some p from jz (h.filter _) this];simp[c]
  ·cases d:cA (kP l) s with
   |none=>simp[c]
   |some q=>
    obtain⟨g,i⟩:=db d;have f:=List.mem_filter.1 g;have:=h.eq f.1 a (by rw[i,b]);subst this;exact(c (by simpa using f.2)).elim
theorem EG{l:List Ob}(h:uniq l)(s:BA):(AO l s).isSome=(match cA l s with|none=>false|some p=>EC l p):=by
 unfold AO;rw[Option.isSome_map];cases e:cA l s with
 |none=>
  have:cA (qp l) s=none:=by
   cases c:cA (qp l) s with
   |none=>rfl
   |some p=>
    obtain⟨a,b⟩:=db c;exact(qt e p (List.mem_filter.1 a).1 b).elim
  rw[this];rfl
 |some p=>
  obtain⟨a,b⟩:=db e;show(cA (qp l) s).isSome=EC l p;cases f:EC l p with
  |true=>
   have:p∈qp l:=List.mem_filter.2 ⟨a,f⟩;rw[←b,show cA (qp l) p.id=some p from jz (h.filter _) this];rfl
  |false=>
   cases c:cA (qp l) s with
   |none=>rfl
   |some q=>
    obtain⟨g,i⟩:=db c;have d:=List.mem_filter.1 g;have:=h.eq d.1 a (by rw[i,b]);subst this;rw[f]at d;cases d.2
theorem so{l:List Ob}(h:uniq l){k:Int}{i:Nat}(a:jB k i=1)(s:BA):kR l k i s=isNode l s:=by
 rw[oJ h];unfold kR;rw[a];cases cA l s with
 |none=>rfl
 |some p=>
  by_cases e:p.kind=1
  ·simp[e,dz]
  ·simp[e]
theorem B0{l:List Ob}(h:uniq l){k:Int}{i:Nat}(a:jB k i=2)(s:BA):kR l k i s=(AO l s).isSome:=by
 rw[EG h];unfold kR;rw[a];cases cA l s with
 |none=>rfl
 |some p=>
  unfold EC;by_cases e:p.kind=2
  ·simp[e,dz]
  ·simp[e]
theorem B5{l:List Ob}(h:uniq l){k:Int}(a:k≠4)(b:k≠5)(r:List BA):∀i,mc l k i r=r.all (isNode l):=by
 induction r with
 |nil=>intro i;rfl
 |cons s r c=>
  intro i;rw[mc,c,so h (by unfold jB;rw[if_neg (by rintro(e|e);exact a e;exact b e.1)]),List.all_cons]
theorem vG{l:List Ob}(h:uniq l){k:Int}(a:k=4∨k=5)(r:List BA):∀i,mc l k i r=tS l k i r:=by
 induction r with
 |nil=>intro i;rfl
 |cons s r b=>
  intro i;rw[mc,tS,b];congr 1;by_cases c:k=5∧i=1
  ·rw[if_pos c,so h (by unfold jB;rw[if_neg (by rintro(e|e);omega;exact e.2 c.2)])]
  ·rw[if_neg c,B0 h (by unfold jB;rw[if_pos (by rcases a with e|e;exact .inl e;exact .inr ⟨e,fun d=>c ⟨e,d⟩⟩)])]
theorem yw{l:List Ob}(h:uniq l){o:Ob}(a:lJ o=true):mc l o.kind 0 o.refs=dz l o:=by
 unfold dz;by_cases b:o.kind=1
 ·rw[if_pos b];have:o.refs=[]:=by
   unfold lJ mh at a;rw[if_pos b]at a;simp only[Bool.and_eq_true,decide_eq_true_eq]at a;exact List.length_eq_zero_iff.1 a.2.1
  rw[this];rfl
 ·rw[if_neg b];by_cases c:o.kind=2∨o.kind=3
  ·rw[if_pos c];exact B5 h O9 O9 _ 0
  ·rw[if_neg c];unfold ED;refine vG h ?_ _ 0;unfold lJ kO at a;simp only[Bool.and_eq_true,decide_eq_true_eq]at a;have:=a.1.1.1.1.1.1;omega
def nw(k:Int):Nat:=if k=1 then 0 else if k=2∨k=3 then 1 else 2
theorem B6{k:Int}{i:Nat}(a:k≠1):nw (jB k i)<nw k:=by
 unfold nw jB;by_cases b:k=2∨k=3
 ·rw[if_neg (show ¬(k=4∨k=5∧i≠1)by omega),if_pos rfl,if_neg a,if_pos b];omega
 ·rw[if_neg a,if_neg b];split
  ·rw[if_neg O9,if_pos O9];omega
  ·rw[if_pos rfl];omega
theorem vH(l:List Ob)(k:Int):∀(r:List BA)(i j:Nat)(s:BA),r[j]? =some s→mc l k i r=(mc l k i (r.take j)&&(kR l k (i+j) s&&mc l k (i+j+1) (r.drop (j+1)))):=by
 intro r;induction r with
 |nil=>intro i j s h;simp at h
 |cons x r a=>
  intro i j s h;cases j with
  |zero=>
   simp at h;subst h;simp[mc]
  |succ j=>
   have:=a (i+1) j s (by simpa using h);rw[mc,this,List.take_succ_cons,mc,List.drop_succ_cons,Bool.and_assoc,show i+1+j=i+(j+1)by omega]
theorem B7(l:List Ob)(k:Int)(r:List BA)(i j:Nat)(s:BA)(h:r[j]? =some s):mc l k i (r.take (j+1))=(mc l k i (r.take j)&&kR l k (i+j) s):=by
 have hj:=(List.getElem?_eq_some_iff.1 h).1;have a:=vH l k (r.take (j+1)) i j s (by rw[List.getElem?_take_of_lt O9];exact h);rw[a,List.take_take,Nat.min_eq_left O9,List.drop_eq_nil_of_le (by rw[List.length_take];omega)];simp[mc]
