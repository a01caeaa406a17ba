/-
  The plain laws of layer 14 (face).
-/
import Derived.Test.YtfkgjbdeicggaaaGreatZK
namespace Go.Proofs.Pf
open Go Go.Proofs.Pg Go.Proofs.Px Go.Proofs.Pn Go.Proofs.Pto
section
variable {κ:Type} {l:List Ob} {nb:BA→List BA} {P:BA→κ}
structure tW(l:List Ob)(P:BA→κ):Prop where
 bor:∀p∈af l,P p.1=P p.2
 conn:∀s∈an l,∀t∈an l,P s.1=P t.1→fe (af l) s.1 t.1
theorem tW.step(h:tW l P){s:eM}(hs:s∈an l):P s.1=P s.2:=by
 rcases ev.1 hs with g|g
 ·exact h.bor _ g
 ·exact(h.bor _ g).symm
noncomputable def yF(l:List Ob)(P:BA→κ)(d:Dart):κ:=match (an l).find? (fun s=>decide (aQ l s=d))with|some s=>P s.1|none=>P ⟨#[]⟩
theorem dH(b:¬dA l){s:eM}(hs:s∈an l):yF l P (aQ l s)=P s.1:=by
 unfold yF;cases e:(an l).find? (fun t=>decide (aQ l t=aQ l s))with
 |none=>
  have:=List.find?_eq_none.1 e s hs;simp at this
 |some t=>
  have c:=List.mem_of_find?_eq_some e;have a:=List.find?_some e;simp only[decide_eq_true_eq]at a;rw[kV b c hs a]
theorem bT{s:eM}(hs:s∈an l):aQ l s∈cw l:=by
 rw[eW];exact List.mem_map.2 ⟨s,hs,rfl⟩
theorem fL{d:Dart}(a:d∈cw l):∃s∈an l,d=aQ l s:=by
 rw[eW]at a;obtain⟨s,hs,rfl⟩:=List.mem_map.1 a;exact⟨s,hs,rfl⟩
theorem kD.around(c:kD l nb)(d:¬dA l){h:Dart→Int}(e:∀s∈cw l,h (bk s)=h s)(f:∀s∈cw l,h (tU l nb s)=h s)(v:BA):∀i,∀hi:i<(nb v).length,∀g:0<(nb v).length,h (aQ l (v,(nb v)[i]))=h (aQ l (v,(nb v)[0]))
 |0,_,_=>rfl
 |i+1,hi,g=>by
  rw[←kD.around c d e f v i O9 g];have hw:(v,(nb v)[i+1])∈an l:=(c.mem _ _).1 (List.getElem_mem hi);have hs:((nb v)[i+1],v)∈an l:=bI.2 hw;obtain⟨j,k,hj,r,m,n,o⟩:=c.place hs;have p:j=i+1:=eY (c.nd v) m;subst p;rw[if_neg O9]at n;have q:k=i:=O9;subst q;have a:=f _ (bT hs);rw[fZ d hs,o]at a;have b:=e _ (bT hw);rw[ny]at b;exact(b.symm.trans a.symm)
theorem tW.comp(h:tW l P)(m:kD l nb)(g:¬dA l):pH (cw l) (tU l nb) (yF l P):=by
 refine⟨fun d k=>?_,fun d k=>?_,fun f q x d k e he r=>?_⟩
 ·obtain⟨s,hs,rfl⟩:=fL k;rw[ny,dH g hs,dH g (bI.2 hs)];exact(h.step hs).symm
 ·obtain⟨s,hs,rfl⟩:=fL k;rw[fZ g hs,dH g hs,dH g (m.aft_mem hs)];exact(h.step hs).symm
 ·obtain⟨s,hs,rfl⟩:=fL k;obtain⟨t,n,rfl⟩:=fL he;rw[dH g hs,dH g n]at r;have key:∀s∈an l,f (aQ l s)=(match (nb s.1).head? with|some w=>f (aQ l (s.1,w))|none=>0):=fun s hs=>by
   obtain⟨i,hi,e⟩:=List.mem_iff_getElem.1 ((m.mem s.1 s.2).2 hs);have u:0<(nb s.1).length:=O9;have:=m.around g q x s.1 i hi u;rw[e]at this;rw[List.head?_eq_getElem?,List.getElem?_eq_getElem u];exact this
  rw[key s hs,key t n];exact(h.conn s hs t n r).keep (fun v=>match (nb v).head? with|some w=>f (aQ l (v,w))|none=>0) fun p hp=>by
   have j:p∈an l:=List.mem_append_left _ hp;have o:=bI.2 j;have a:=key p j;have b:=key (swp p) o;have c:=q _ (bT j);rw[ny]at c;exact a.symm.trans (c.symm.trans b)
theorem qI(_h:tW l P)(a:¬dA l){d e:Dart}(c:d∈cw l)(he:e∈cw l)(hx:d.1=e.1):yF l P d=yF l P e:=by
 obtain⟨s,hs,rfl⟩:=fL c;obtain⟨t,b,rfl⟩:=fL he;rw[dH a hs,dH a b,(eX a hs b).1 hx]
structure gV(l:List Ob)(nb:BA→List BA)(P:BA→κ)(outs rims:List (List BA)):Prop where
 nbi:kD l nb
 lab:tW l P
 cyc:DK l nb (outs++rims)
 out:∀c∈outs,0<tw (aw l c)
 rim:∀c∈rims,¬0<tw (aw l c)
variable {outs rims:List (List BA)}
theorem lR{cs:List (List BA)}(h:DK l nb cs)(hm:aZ l=true)(a:¬dA l)(b:kD l nb){c d:List BA}(f:c∈cs)(g:d∈cs)(e:aw l c=aw l d):c=d:=by
 have hp:=(h.plane b hm a).cs_nd;obtain⟨i,hi,rfl⟩:=List.mem_iff_getElem.1 f;obtain⟨j,hj,rfl⟩:=List.mem_iff_getElem.1 g;have:i=j:=eY hp (i:=i) (j:=j) (hi:=by rw[List.length_map];exact hi) (hj:=by rw[List.length_map];exact hj) (by rw[List.getElem_map,List.getElem_map];exact e);subst this;rfl
theorem gV.nd(h:gV l nb P outs rims)(hm:aZ l=true)(a:¬dA l):(outs++rims).Nodup:=
 List.Pairwise.of_map (aw l) (fun _ _ h e=>h (by rw[e])) (h.cyc.plane h.nbi hm a).cs_nd
theorem gV.euler(h:gV l nb P outs rims)(hm:aZ l=true)(b:¬dA l){V:List BA}(o:V.Nodup)(i:∀v,v∈V↔∃s∈an l,s.1=v){K:List κ}(p:K.Nodup)(j:∀k,k∈K↔∃s∈an l,P s.1=k):outs.length+V.length=(af l).length+K.length:=by
 have pl:=h.cyc.plane h.nbi hm b;have f:∀v∈V,∃s∈an l,s.1=v:=fun v hv=>(i v).1 hv;have:=pl.euler (h.lab.comp h.nbi b) (E:=oN l) (List.Perm.refl _) (V:=V.map (ar l)) (gN o fun v hv w hw e=>by
   obtain⟨s,hs,rfl⟩:=f v hv;obtain⟨t,q,rfl⟩:=f w hw;exact(eX b hs q).1 e) (fun x=>by
   rw[List.mem_map];constructor
   ·rintro⟨v,hv,rfl⟩;obtain⟨s,hs,rfl⟩:=f v hv;exact⟨aQ l s,bT hs,rfl⟩
   ·rintro⟨d,a,rfl⟩;obtain⟨s,hs,rfl⟩:=fL a;exact⟨s.1,(i _).2 ⟨s,hs,rfl⟩,rfl⟩) (K:=K) p (fun k=>by
   rw[j];constructor
   ·rintro⟨s,hs,rfl⟩;exact⟨aQ l s,bT hs,dH b hs⟩
   ·rintro⟨d,a,rfl⟩;obtain⟨s,hs,rfl⟩:=fL a;exact⟨s,hs,(dH b hs).symm⟩) (fun d a e he hx=>qI h.lab b a he hx) (os:=outs.map (aw l)) (gN (List.nodup_append.1 (h.nd hm b)).1 fun c m d n e=>lR h.cyc hm b h.nbi (List.mem_append_left _ m) (List.mem_append_left _ n) e) (fun c=>by
   rw[List.mem_map];constructor
   ·rintro⟨d,a,rfl⟩;exact⟨List.mem_map.2 ⟨d,List.mem_append_left _ a,rfl⟩,h.out d a⟩
   ·rintro⟨r,u⟩;obtain⟨d,a,rfl⟩:=List.mem_map.1 r;rcases List.mem_append.1 a with g|g
    ·exact⟨d,g,rfl⟩
    ·exact absurd u (h.rim d g))
 rw[List.length_map,List.length_map]at this;rw[this,oN,List.length_map]
def bF(l:List Ob)(c:List BA):List Pt:=c.map (ar l)
theorem AS{c:List BA}(h:c≠[])(i:Nat):Pri.cor (bF l c) i=ar l (aS c i):=by
 have a:0<c.length:=List.length_pos_iff.2 h;unfold Pri.cor Pri.at0 aS bF;rw[List.length_map,List.getElem?_map,List.getD_eq_getElem?_getD,List.getElem?_eq_getElem (Nat.mod_lt i a)];rfl
theorem dB(l:List Ob)(c:List BA):aw l c=bh (bF l c):=by
 by_cases h:c=[]
 ·subst h;rfl
 ·unfold aw bE bh;rw[List.map_map,show(bF l c).length=c.length from by unfold bF;rw[List.length_map]];refine List.map_congr_left fun i _=>?_;show aQ l (aS c i,aS c (i+1))=_;rw[AS h,AS h];rfl
def nC(r:List Pt)(p:Pt):Bool:=decide (pT (bh r) p%2=1)
theorem du{c:List BA}(h:yE l nb c):aQ l (aS c 0,aS c 1)∈aw l c∧(aS c 0,aS c 1)∈an l:=by
 have:=gj h.ne 0;exact⟨List.mem_map.2 ⟨_,this,rfl⟩,h.sub _ this⟩
theorem gV.inside(h:gV l nb P outs rims)(hm:aZ l=true)(i:¬dA l){c:List BA}(b:c∈outs){s:eM}(hs:s∈an l)(u:P (aS c 0)≠P s.1):nC (bF l c) (ar l s.1)=true↔F (aw l c) (aQ l s)=1:=by
 have pl:=h.cyc.plane h.nbi hm i;have m:=h.lab.comp h.nbi i;have j:aw l c∈(outs++rims).map (aw l):=List.mem_map.2 ⟨c,List.mem_append_left _ b,rfl⟩;have n:=h.cyc.cyc c (List.mem_append_left _ b);obtain⟨r,v⟩:=du n;have o:=pl.orb _ j;obtain⟨f1,f2⟩:=pl.outer_F m j (h.out c b) r;have a:∀t∈aw l c,yF l P t≠yF l P (aQ l s):=fun t k e=>u (by
  have:=o.lab m r k;rw[dH i v,e,dH i hs]at this;exact this)
 have f:∀t∈aw l c,t.1≠(aQ l s).1∧t.2≠(aQ l s).1:=fun t k=>by
  have g:=o.sub t k;refine⟨fun e=>a t k (qI h.lab i g (bT hs) e),fun e=>?_⟩;have:=qI h.lab i (d:=bk t) (pl.gr.back t g) (bT hs) e;rw[m.bk t g]at this;exact a t k this
 have p:aQ l s∉aw l c:=fun e=>(f _ e).1 rfl;have q:bk (aQ l s)∉aw l c:=fun e=>(f _ e).2 rfl;have hw:=BR pl.gr (o.chn pl.rot) (bT hs) f p q;have hF:=f1 _ (bT hs);unfold nC;rw[←dB,decide_eq_true_eq];have:wd (aw l c) (ar l s.1)=F (aw l c) (aQ l s):=hw;rw[o9 (by rw[this];omega),this];omega
structure pV(l:List Ob)(P:BA→κ)(outs:List (List BA))(v:BA)(k:Nat):Prop where
 none:k=0→∀c∈outs,P (aS c 0)=P v∨nC (bF l c) (ar l v)=false
 some:∀i,k=i+1→∃c,outs[i]? =some c∧P (aS c 0)≠P v∧nC (bF l c) (ar l v)=true∧∀d∈outs,P (aS d 0)≠P v→nC (bF l d) (ar l v)=true→tw (aw l c)≤tw (aw l d)
theorem gV.at_rim(h:gV l nb P outs rims)(hm:aZ l=true)(n:¬dA l){R:List BA}(r:R∈rims){k:Nat}(j:pV l P outs (aS R 0) k):(k=0∧Es (cw l) (aQ l (aS R 0,aS R 1)))∨∃i c,k=i+1∧outs[i]? = .some c∧oy (cw l) (aQ l (aS R 0,aS R 1)) (aQ l (aS c 0,aS c 1)):=by
 have pl:=h.cyc.plane h.nbi hm n;have s:=h.lab.comp h.nbi n;have t:aw l R∈(outs++rims).map (aw l):=List.mem_map.2 ⟨R,List.mem_append_right _ r,rfl⟩;have u:=h.cyc.cyc R (List.mem_append_right _ r);obtain⟨H,F⟩:=du u;have o:∀c∈outs,aw l c∈(outs++rims).map (aw l):=fun c a=>List.mem_map.2 ⟨c,List.mem_append_left _ a,rfl⟩;have m:=fun {c:List BA}(a:c∈outs)(p:P (aS c 0)≠P (aS R 0))=>h.inside hm n a F p;rcases pl.around s t (h.rim R r) H with⟨hb,I⟩|⟨C,hC,v,w,x,y,z⟩
 ·left;refine⟨?_,hb⟩
  match k,j with
  |0,_=>rfl
  |i+1,j=>
   obtain⟨c,q,A,B,_⟩:=j.some i rfl;have a:=List.mem_of_getElem? q;have L:=(m a A).1 B;have M:=I _ (o c a) (h.out c a);omega
 ·right;obtain⟨c,b,rfl⟩:=List.mem_map.1 hC;have a:c∈outs:=by
   rcases List.mem_append.1 b with g|g
   ·exact g
   ·exact absurd v (h.rim c g)
  obtain⟨G,J⟩:=du (h.cyc.cyc c b);have p:P (aS c 0)≠P (aS R 0):=fun e=>w _ G (by rw[dH n J,dH n F];exact e);have hi:=(m a p).2 x
  match k,j with
  |0,j=>
   rcases j.none rfl c a with g|g
   ·exact absurd g p
   ·rw[hi]at g;cases g
  |i+1,j=>
   obtain⟨d,q,A,B,K⟩:=j.some i rfl;have f:=List.mem_of_getElem? q;have hle:=K c a p hi;have D:=(m f A).1 B;have E:aw l d=aw l c:=by
    by_cases g:aw l d=aw l c
    ·exact g
    ·have:=z _ (o d f) (h.out d f) g D;omega
   have:d=c:=lR h.cyc hm n h.nbi (List.mem_append_left _ f) b E;subst this;exact⟨i,d,rfl,q,y _ G⟩
theorem AT{α:Type}[DecidableEq α]{L:List α}(g:L.Nodup){a:α}(ha:a∈L)(f:α→Int):sl (fun b=>(if b=a then 1 else 0)*f b) L=f a:=by
 induction L with
 |nil=>cases ha
 |cons b L h=>
  obtain⟨d,i⟩:=List.nodup_cons.1 g;rw[aV];rcases List.mem_cons.1 ha with rfl|ha
  ·rw[if_pos rfl,jc fun c j=>by rw[if_neg (fun e=>d (by rw[←e];exact j))];omega];omega
  ·rw[if_neg (fun e=>d (by rw[e];exact ha)),h i ha];omega
theorem sB{α:Type}(p:α→Bool)(f:α→Int)(L:List α):sl f (L.filter p)=sl (fun a=>(if p a=true then 1 else 0)*f a) L:=by
 induction L with
 |nil=>rfl
 |cons a L b=>
  rw[aV,←b];cases e:p a with
  |true=>rw[List.filter_cons_of_pos e,aV,if_pos rfl];omega
  |false=>rw[List.filter_cons_of_neg (by simp[e]),if_neg (by simp)];omega
def yG(l:List Ob)(outs rims:List (List BA))(at':List BA→Nat)(i:Nat):Int:=tw (aw l (outs.getD i []))+sl (fun R=>tw (aw l R)) (rims.filter fun R=>decide (at' R=i+1))
section
variable {at':List BA→Nat}
theorem gV.sim_at(h:gV l nb P outs rims)(hm:aZ l=true)(m:¬dA l)(q:∀R∈rims,pV l P outs (aS R 0) (at' R)){i:Nat}{c:List BA}(hi:outs[i]? =some c){R:List BA}(r:R∈rims):oy (cw l) (aQ l (aS c 0,aS c 1)) (aQ l (aS R 0,aS R 1))↔at' R=i+1:=by
 have pl:=h.cyc.plane h.nbi hm m;have n:=h.lab.comp h.nbi m;have f:=List.mem_of_getElem? hi;have g:∀c∈outs,aw l c∈(outs++rims).map (aw l):=fun c f=>List.mem_map.2 ⟨c,List.mem_append_left _ f,rfl⟩;obtain⟨s,B⟩:=du (h.cyc.cyc c (List.mem_append_left _ f));have t:=pl.outer_one n (g c f) (h.out c f) s;have o:=(pl.orb _ (g c f)).chn pl.rot;rcases h.at_rim hm m r (q R r)with⟨e,hb⟩|⟨j,d,e,p,u⟩
 ·rw[e];refine⟨fun hs=>?_,fun e=>O9⟩;have a:=hs _ o;have b:=hb _ o;omega
 ·have k:=List.mem_of_getElem? p;obtain⟨w,C⟩:=du (h.cyc.cyc d (List.mem_append_left _ k));rw[e];constructor
  ·intro hs;have:=pl.face_one n (g c f) (g d k) (h.out c f) (h.out d k) s w (hs.trans u);have:=lR h.cyc hm m h.nbi (List.mem_append_left _ f) (List.mem_append_left _ k) this;subst this;have x:=(List.nodup_append.1 (h.nd hm m)).1;obtain⟨y,v⟩:=List.getElem?_eq_some_iff.1 hi;obtain⟨z,A⟩:=List.getElem?_eq_some_iff.1 p;have:=eY x (v.trans A.symm);omega
  ·intro v;have:j=i:=O9;subst this;rw[hi]at p;obtain rfl:=Option.some.inj p;exact u.symm
theorem gV.face_pos(h:gV l nb P outs rims)(hm:aZ l=true)(j:¬dA l)(o:∀R∈rims,pV l P outs (aS R 0) (at' R)){i:Nat}(hi:i<outs.length):0<yG l outs rims at' i:=by
 have pl:=h.cyc.plane h.nbi hm j;have k:=h.lab.comp h.nbi j;have n:outs[i]? =some outs[i]:=List.getElem?_eq_getElem hi;generalize w:outs[i]=c at n;have a:=List.mem_of_getElem? n;have b:∀c∈outs,aw l c∈(outs++rims).map (aw l):=fun c a=>List.mem_map.2 ⟨c,List.mem_append_left _ a,rfl⟩;obtain⟨q,x⟩:=du (h.cyc.cyc c (List.mem_append_left _ a));have r:=pl.outer_one k (b c a) (h.out c a) q;have p:=(pl.orb _ (b c a)).chn pl.rot
 obtain⟨_,_,_,_,hp⟩:=pl.face (t:=aQ l (aS c 0,aS c 1)) (bT x) (fun hb=>by have:=hb _ p;omega);rw[dq,fi]at hp;have all:∀d∈outs++rims,(∀s∈aw l d,oy (cw l) (aQ l (aS c 0,aS c 1)) s)↔oy (cw l) (aQ l (aS c 0,aS c 1)) (aQ l (aS d 0,aS d 1)):=fun d f=>by
  obtain⟨m,y⟩:=du (h.cyc.cyc d f);exact⟨fun g=>g _ m,fun g s hs=>g.trans (pl.sim_orb (List.mem_map.2 ⟨d,f,rfl⟩) m hs)⟩
 have s1:sl (fun d=>gT (∀s∈aw l d,oy (cw l) (aQ l (aS c 0,aS c 1)) s)*tw (aw l d)) outs=tw (aw l c):=by
  rw[←AT (List.nodup_append.1 (h.nd hm j)).1 a fun d=>tw (aw l d)];refine aR fun d f=>?_;by_cases e:d=c
  ·subst e;rw[if_pos rfl,cH ((all d (List.mem_append_left _ f)).2 fun _ _=>rfl)]
  ·rw[if_neg e,eo fun g=>?_];obtain⟨m,y⟩:=du (h.cyc.cyc d (List.mem_append_left _ f));have:=pl.face_one k (b c a) (b d f) (h.out c a) (h.out d f) q m (g _ m);exact e (lR h.cyc hm j h.nbi (List.mem_append_left _ a) (List.mem_append_left _ f) this).symm
 have s2:sl (fun d=>gT (∀s∈aw l d,oy (cw l) (aQ l (aS c 0,aS c 1)) s)*tw (aw l d)) rims=sl (fun R=>tw (aw l R)) (rims.filter fun R=>decide (at' R=i+1)):=by
  rw[sB];refine aR fun R u=>?_;have v:=(all R (List.mem_append_right _ u)).trans (h.sim_at hm j o n u);by_cases e:at' R=i+1
  ·rw[cH (v.2 e),if_pos (by simpa using e)]
  ·rw[eo (fun g=>e (v.1 g)),if_neg (by simpa using e)]
 rw[s1,s2]at hp;unfold yG;rw[List.getD_eq_getElem?_getD,n];exact hp
theorem gV.covered(h:gV l nb P outs rims)(hm:aZ l=true)(o:¬dA l)(k:∀R∈rims,pV l P outs (aS R 0) (at' R)){L:List Dart}(f:ko (cw l) L):sl (fun i=>F L (aQ l (aS (outs.getD i []) 0,aS (outs.getD i []) 1))*yG l outs rims at' i) (List.range outs.length)=tw L:=by
 have pl:=h.cyc.plane h.nbi hm o;have a:=pl.covered f (fun C=>match C.head? with|some s=>F L s|none=>0) fun C hC s hs=>by
  cases e:C.head? with
  |none=>
   rw[List.head?_eq_none_iff]at e;subst e;cases hs
  |some t=>
   have p:t∈C:=List.mem_of_head? e;exact pl.sim_orb hC p hs L f
 have b:∀c∈outs++rims,(match (aw l c).head? with|some s=>F L s|none=>0)=F L (aQ l (aS c 0,aS c 1)):=fun c m=>by
  have q:0<c.length:=List.length_pos_iff.2 (h.cyc.cyc c m).ne;rw[List.head?_eq_getElem?,List.getElem?_eq_getElem (by unfold aw bE;rw[List.length_map,List.length_map,List.length_range];exact q)];simp only[aw,bE,List.getElem_map,List.getElem_range]
 rw[dq,fi]at a;rw[←a];have w:=fun(c:List BA)=>F L (aQ l (aS c 0,aS c 1));have r:sl (fun d=>(match (aw l d).head? with|some s=>F L s|none=>0)*tw (aw l d)) outs=sl (fun i=>F L (aQ l (aS (outs.getD i []) 0,aS (outs.getD i []) 1))*tw (aw l (outs.getD i []))) (List.range outs.length):=by
  have:outs=(List.range outs.length).map fun i=>outs.getD i []:=by
   refine List.ext_getElem (by simp) fun i u y=>?_;rw[List.getElem_map,List.getElem_range,List.getD_eq_getElem?_getD,List.getElem?_eq_getElem u];rfl
  conv=>lhs;rw[this]
  rw[dq];refine aR fun i hi=>?_;rw[b _ (List.mem_append_left _ ?_)];rw[List.getD_eq_getElem?_getD,List.getElem?_eq_getElem (List.mem_range.1 hi)];exact List.getElem_mem _
 have v:sl (fun d=>(match (aw l d).head? with|some s=>F L s|none=>0)*tw (aw l d)) rims=sl (fun i=>F L (aQ l (aS (outs.getD i []) 0,aS (outs.getD i []) 1))*sl (fun R=>tw (aw l R)) (rims.filter fun R=>decide (at' R=i+1))) (List.range outs.length):=by
  rw[aR (l:=List.range outs.length) (g:=fun i=>sl (fun R=>F L (aQ l (aS (outs.getD i []) 0,aS (outs.getD i []) 1))*((if decide (at' R=i+1)=true then 1 else 0)*tw (aw l R))) rims) fun i _=>by rw[sB,iA],Aw];refine aR fun R n=>?_;rw[b R (List.mem_append_right _ n)];rcases h.at_rim hm o n (k R n)with⟨e,hb⟩|⟨j,d,e,f1,f2⟩
  ·rw[hb L f,jc fun i _=>by rw[e,if_neg (by simp)];omega];omega
  ·obtain⟨hj,f3⟩:=List.getElem?_eq_some_iff.1 f1;have hp:=AT List.nodup_range (List.mem_range.2 hj) fun i=>F L (aQ l (aS (outs.getD i []) 0,aS (outs.getD i []) 1))*tw (aw l R);(have x:outs.getD j []=d:=by rw[List.getD_eq_getElem?_getD,f1];rfl);simp only[x]at hp;rw[f2 L f,←hp];refine aR fun i _=>?_;rw[e];by_cases g:i=j
   ·subst g;rw[if_pos rfl,if_pos (by simp),Int.one_mul,Int.one_mul]
   ·rw[if_neg g,if_neg (by simp;omega),Int.zero_mul,Int.zero_mul,Int.mul_zero]
 rw[r,v,←mA];exact aR fun i _=>by unfold yG;rw[Int.mul_add]
end
end
section
variable {κ:Type} {l:List Ob} {nb:BA→List BA} {P:BA→κ}
structure nD(l:List Ob)(r:List BA):Prop where
 nd:r.Nodup
 three:3≤r.length
 few:r.length≤2000
 sub:∀s∈bE r,s∈an l
theorem tX(hm:aZ l=true){o:Ob}(f:o∈l)(b:o.kind=3)(j:o.refs.all (isNode l)=true):nD l o.refs:=by
 have hb:=iD hm o f;have g:=ij hb;have k:=hb;unfold lJ kO at hb;simp only[Bool.and_eq_true,decide_eq_true_eq]at hb;have hr:=hb.1.2;rw[b]at hr g;have c:3≤o.refs.length:=g;refine⟨(qE _ _ _ hr).1,c,hb.1.1.2,fun s hs=>?_⟩;obtain⟨i,hi,rfl⟩:=lQ hs;have hp:bC (aS o.refs i,aS o.refs (i+1))∈af l:=by
  rw[df,fX,List.mem_flatMap];refine⟨o,f,?_⟩;unfold bU;rw[if_pos ⟨.inr b,j⟩,bw,List.mem_map];refine⟨i,List.mem_range.2 (by unfold br;rw[if_pos b];exact hi),?_⟩;unfold sideAt aS;rw[Nat.mod_eq_of_lt hi]
 refine ev.2 ?_;unfold bC ck eu at hp;simp only at hp;cases a:fK (aS o.refs (i+1)) (aS o.refs i)with
 |true=>
  have d:fK (aS o.refs i) (aS o.refs (i+1))=false:=by
   cases e:fK (aS o.refs i) (aS o.refs (i+1))with
   |false=>rfl
   |true=>have:=dg e a;rw[bj]at this;cases this
  rw[a,d]at hp;exact .inr (by simpa[swp]using hp)
 |false=>
  by_cases h:aS o.refs i=aS o.refs (i+1)
  ·rw[h]at hp ⊢;simp only[bj]at hp;exact .inl (by simpa using hp)
  ·have d:=gL a (fun e=>h e.symm);rw[a,d]at hp;exact .inl (by simpa using hp)
theorem nD.pnd{r:List BA}(h:nD l r)(d:¬dA l):(bF l r).Nodup:=by
 have c:r≠[]:=fun e=>by have:=h.three;rw[e]at this;simp at this
 refine gN h.nd fun v hv w hw e=>?_;obtain⟨i,hi,rfl⟩:=List.mem_iff_getElem.1 hv;obtain⟨j,hj,rfl⟩:=List.mem_iff_getElem.1 hw;have a:=h.sub _ (gj c i);have b:=h.sub _ (gj c j);have:=(eX d a b).1;simp only[iK hi,iK hj]at this;exact this e
theorem eJ(l:List Ob)(r:List BA):(bF l r).length=r.length:=by unfold bF;rw[List.length_map]
theorem nD.darts{r:List BA}(h:nD l r):∀s∈bh (bF l r),s∈cw l:=by
 rw[←dB];intro d a;obtain⟨s,hs,rfl⟩:=List.mem_map.1 a;exact bT (h.sub s hs)
theorem yH(hm:aZ l=true)(v:¬dA l){s t:Dart}(hs:s∈cw l)(j:t∈cw l)(k:s≠t)(m:s≠bk t):((s.1=t.1∨s.1=t.2∨s.2=t.1∨s.2=t.2)→meets ⟨s.1,s.2⟩ ⟨t.1,t.2⟩=1)∧(¬(s.1=t.1∨s.1=t.2∨s.2=t.1∨s.2=t.2)→meets ⟨s.1,s.2⟩ ⟨t.1,t.2⟩=0):=by
 obtain⟨p,hp,n⟩:=ia hs;obtain⟨q,w,o⟩:=ia j;have h:p≠q:=fun e=>by
  subst e;rcases n with rfl|rfl<;>rcases o with rfl|rfl
  ·exact k rfl
  ·exact m rfl
  ·exact m rfl
  ·exact k rfl
 have i:=qG v hp w h;rw[←mG n o]at i;obtain⟨a,b⟩:=gG hm hs;obtain⟨r,u⟩:=gG hm j;have c:=iy ⟨s.1,s.2⟩ ⟨t.1,t.2⟩ (by rw[Pri.near4'];exact⟨a,b,r,u⟩);have d:=Pri.on_end s.1 s.2 a b;have f:=Pri.on_end t.1 t.2 r u;refine⟨fun g=>i.resolve_left ?_,fun g=>i.resolve_right fun e=>g (kN e)⟩;rcases g with g|g|g|g
 ·exact c.one s.1 a d.1 (by rw[g];exact f.1)
 ·exact c.one s.1 a d.1 (by rw[g];exact f.2)
 ·exact c.one s.2 b d.2 (by rw[g];exact f.1)
 ·exact c.one s.2 b d.2 (by rw[g];exact f.2)
theorem EP{r:List Pt}(h:∀p∈r,aF p=true):aD r=true:=by
 induction r with
 |nil=>rfl
 |cons a r b=>
  unfold aD;rw[h a (List.mem_cons_self ..),b fun p hp=>h p (List.mem_cons_of_mem _ hp)];rfl
theorem nD.simple{r:List BA}(h:nD l r)(hm:aZ l=true)(o:¬dA l):Pri.simple (bF l r)=true:=by
 have m:=h.pnd o;have n:=h.darts;have hlen:=eJ l r;have s:=h.three;have t:=h.few;have j:0<(bF l r).length:=O9;rw[Pri.simple_iff];have c:∀i,i<(bF l r).length→Pri.sideAt (bF l r) i=⟨Pri.cor (bF l r) i,Pri.cor (bF l r) (i+1)⟩:=fun i hi=>by
  rw[←Pri.cor_side,Nat.mod_eq_of_lt hi]
 have two:=fun(i k:Nat)(hi:i<(bF l r).length)(f:k<(bF l r).length)(d:i≠k)=>yH hm o (n _ (hX j i)) (n _ (hX j k)) (fun e=>d (by
   have:=jS m j (Prod.ext_iff.1 e).1;rwa [Nat.mod_eq_of_lt hi,Nat.mod_eq_of_lt f]at this)) (fun e=>rY m O9 (hX j k) (by rw[←e];exact hX j i))
 have same:∀a b,Pri.cor (bF l r) a=Pri.cor (bF l r) b↔a%(bF l r).length=b%(bF l r).length:=fun a b=>⟨jS m j,fun e=>by unfold Pri.cor;rw[e]⟩;refine⟨(Pri.regB_iff _).2 ⟨O9,O9,EP fun p hp=>?_⟩,fun i k hi f d ha=>?_,fun i k hi f d ha=>?_⟩
 ·obtain⟨i,hi,rfl⟩:=List.mem_iff_getElem.1 hp;have:=(gG hm (n _ (hX j i))).1;simp only[Pri.cor_lt _ i hi]at this;unfold Pri.at0 at this;rw[List.getElem?_eq_getElem hi]at this;exact this
 ·rw[c i hi,c k f];refine(two i k hi f d).1 ?_;simp only[same];rcases ha with g|g
  ·exact .inr (.inr (.inl (by rw[g,Nat.mod_eq_of_lt f])))
  ·exact .inr (.inl (by rw[g,Nat.mod_eq_of_lt hi]))
 ·rw[c i hi,c k f];refine(two i k hi f d).2 ?_;simp only[same];rw[Nat.mod_eq_of_lt hi,Nat.mod_eq_of_lt f];rintro(g|g|g|g)
  ·exact d g
  ·exact ha (.inr g.symm)
  ·exact ha (.inl g)
  ·have:=Pri.cor (bF l r);have q:i=k:=by
    by_cases a:i+1=(bF l r).length
    ·rw[a,Nat.mod_self]at g;by_cases b:k+1=(bF l r).length
     ·omega
     ·rw[Nat.mod_eq_of_lt O9]at g;omega
    ·rw[Nat.mod_eq_of_lt (show i+1<(bF l r).length by omega)]at g;by_cases b:k+1=(bF l r).length
     ·rw[b,Nat.mod_self]at g;omega
     ·rw[Nat.mod_eq_of_lt O9]at g;omega
   exact d q
theorem ER{r:List Pt}(h:Pri.regB r=true):Pri.twice r=tw (bh r):=by
 unfold Pri.twice;rw[if_pos h];have d:0<r.length:=by have:=((Pri.regB_iff r).1 h).1;omega
 have key:∀L:List Nat,Pri.sumT (L.map fun i=>(i,Pri.sideAt r i))=sl (fun i=>Pri.term (i,Pri.sideAt r i)) L:=by
  intro L;induction L with
  |nil=>rfl
  |cons a L c=>rw[List.map_cons,Pri.sumT,c];rfl
 unfold Pri.sidesL;rw[key];have b:=fJ r fun p=>p.x*p.y;unfold bh at b;rw[dq]at b;unfold tw bh;rw[dq];have:sl (fun i=>Pri.term (i,Pri.sideAt r i)) (List.range r.length)=sl (fun i=>((Pri.cor r i).x*(Pri.cor r (i+1)).y-(Pri.cor r (i+1)).x*(Pri.cor r i).y)+((Pri.cor r (i+1)).x*(Pri.cor r (i+1)).y-(Pri.cor r i).x*(Pri.cor r i).y)) (List.range r.length):=by
  refine aR fun i hi=>?_;rw[show Pri.sideAt r i=⟨Pri.cor r i,Pri.cor r (i+1)⟩from by rw[←Pri.cor_side,Nat.mod_eq_of_lt (List.mem_range.1 hi)]];unfold Pri.term;simp only;grind
 rw[this,mA];simp only at b ⊢;omega
def dblP(p:Pt):Pt:=⟨2*p.x,2*p.y⟩
def fk(l:List Ob)(r:List BA)(s:eM):Bool:=match (bE r).find? (fun t=>decide (t=s)||decide (t=swp s))with
 |some t=>if t=s then decide (0<tw (aw l r))else !decide (0<tw (aw l r))
 |none=>nC ((bF l r).map dblP) ⟨(ar l s.1).x+(ar l s.2).x,(ar l s.1).y+(ar l s.2).y⟩
theorem ES(r:List Pt):bh (r.map dblP)=fI 2 (bh r):=by
 unfold bh fI;rw[List.map_map,List.length_map];refine List.map_congr_left fun i hi=>?_;have a:0<r.length:=by have:=List.mem_range.1 hi;omega
 have key:∀i,Pri.cor (r.map dblP) i=Pri.sc 2 (Pri.cor r i):=fun i=>by
  unfold Pri.cor Pri.at0;rw[List.length_map,List.getElem?_map,List.getElem?_eq_getElem (Nat.mod_lt i a)];rfl
 show(Pri.cor _ _,Pri.cor _ _)=jv 2 _;rw[key,key];rfl
variable {outs rims:List (List BA)}
theorem ET(h:gV l nb P outs rims)(hm:aZ l=true)(j:¬dA l){r:List BA}(hr:nD l r){s:eM}(hs:s∈an l):((0<tw (aw l r)∧(F (aw l r) (aQ l s)=if fk l r s=true then 1 else 0))∨(tw (aw l r)<0∧(F (aw l r) (aQ l s)=if fk l r s=true then-1 else 0))):=by
 have pl:=h.cyc.plane h.nbi hm j;have hlen:=eJ l r;have q:=hr.three;have i:=pl.ring (hr.pnd j) O9 hr.darts;rw[←dB]at i;have c:∀t:eM,t∈bE r→aQ l t∈aw l r:=fun t k=>List.mem_map.2 ⟨t,k,rfl⟩;have d:∀t:eM,t∈an l→aQ l t∈aw l r→t∈bE r:=fun t k he=>by
  obtain⟨u,hu,e⟩:=List.mem_map.1 he;rw[←kV j (hr.sub u hu) k e];exact hu
 cases e:(bE r).find? (fun t=>decide (t=s)||decide (t=swp s))with
 |some t=>
  have b:fk l r s=if t=s then decide (0<tw (aw l r))else !decide (0<tw (aw l r)):=by unfold fk;rw[e]
  have t1:=List.mem_of_find?_eq_some e;have t2:=List.find?_some e;simp only[Bool.or_eq_true,decide_eq_true_eq]at t2;rcases i with⟨a1,a2,_⟩|⟨a1,a2,_⟩
  ·left;refine⟨a1,?_⟩;rcases t2 with rfl|rfl
   ·rw[if_pos rfl,decide_eq_true a1]at b;rw[(a2 _ (c _ t1)).1,if_pos b]
   ·rw[if_neg (fun e=>nA hm hs (Prod.ext_iff.1 e).2),decide_eq_true a1]at b;have:=(a2 _ (c _ t1)).2;rw[ny,AQ]at this;rw[this,if_neg (by rw[b];simp)]
  ·right;refine⟨a1,?_⟩;have a0:¬0<tw (aw l r):=O9;rcases t2 with rfl|rfl
   ·rw[if_pos rfl,decide_eq_false a0]at b;rw[(a2 _ (c _ t1)).1,if_neg (by rw[b];simp)]
   ·rw[if_neg (fun e=>nA hm hs (Prod.ext_iff.1 e).2),decide_eq_false a0]at b;have:=(a2 _ (c _ t1)).2;rw[ny,AQ]at this;rw[this,if_pos (by rw[b];rfl)]
 |none=>
  have f:=List.find?_eq_none.1 e;simp only[Bool.or_eq_true,decide_eq_true_eq,not_or]at f;have n:aQ l s∉aw l r:=fun g=>(f s (d s hs g)).1 rfl;have o:bk (aQ l s)∉aw l r:=fun g=>(f (swp s) (d (swp s) (bI.2 hs) g)).2 rfl;have hF:F (aw l r) (aQ l s)=wd (fI 2 (aw l r)) ⟨(ar l s.1).x+(ar l s.2).x,(ar l s.1).y+(ar l s.2).y⟩:=by
   unfold F;rw[ox n o,Int.mul_zero,Int.add_zero];rfl
  have hv:F (aw l r) (aQ l s)=0∨F (aw l r) (aQ l s)=1∨F (aw l r) (aQ l s)= -1:=by
   rcases i with⟨_,_,a⟩|⟨_,_,a⟩<;>have:=a _ (bT hs)<;>omega
  have m:=o9 (L:=fI 2 (aw l r)) (p:=⟨(ar l s.1).x+(ar l s.2).x,(ar l s.1).y+(ar l s.2).y⟩) (by rw[←hF];exact hv);rw[←hF]at m;have b:fk l r s=true↔F (aw l r) (aQ l s)≠0:=by
   unfold fk;rw[e];simp only;unfold nC;rw[ES,←dB,decide_eq_true_eq];exact m
  simp only[b];rcases i with⟨a1,_,a⟩|⟨a1,_,a⟩
  ·left;refine⟨a1,?_⟩;rcases a _ (bT hs)with g|g<;>rw[g]<;>simp
  ·right;refine⟨a1,?_⟩;rcases a _ (bT hs)with g|g<;>rw[g]<;>simp
variable {at':List BA→Nat}
theorem gV.area_sum(h:gV l nb P outs rims)(hm:aZ l=true)(d:¬dA l)(f:∀R∈rims,pV l P outs (aS R 0) (at' R)){r:List BA}(hr:nD l r):sl (fun i=>(if fk l r (aS (outs.getD i []) 0,aS (outs.getD i []) 1)=true then 1 else 0)*yG l outs rims at' i) (List.range outs.length)=max (tw (aw l r)) (-tw (aw l r)):=by
 have b:=h.covered hm d f (L:=aw l r) ⟨by rw[dB];exact hr.darts,by rw[dB];exact fJ _⟩;have a:∀i∈List.range outs.length,(aS (outs.getD i []) 0,aS (outs.getD i []) 1)∈an l:=fun i hi=>by
  have c:=List.mem_range.1 hi;rw[List.getD_eq_getElem?_getD,List.getElem?_eq_getElem c];exact(du (h.cyc.cyc _ (List.mem_append_left _ (List.getElem_mem c)))).2
 by_cases hp:0<tw (aw l r)
 ·rw[show max (tw (aw l r)) (-tw (aw l r))=tw (aw l r)from by omega,←b];refine aR fun i hi=>?_;rcases ET h hm d hr (a i hi)with⟨_,e⟩|⟨g,_⟩
  ·rw[e]
  ·omega
 ·by_cases k:outs.length=0
  ·rw[k]at b ⊢;simp only[List.range_zero,sl]at b ⊢;omega
  ·have j:tw (aw l r)<0:=by
    rcases ET h hm d hr (a 0 (List.mem_range.2 O9))with⟨g,_⟩|⟨g,_⟩<;>omega
   rw[show max (tw (aw l r)) (-tw (aw l r))= -tw (aw l r)from by omega,←b,←js];refine aR fun i hi=>?_;rcases ET h hm d hr (a i hi)with⟨g,_⟩|⟨_,e⟩
   ·omega
   ·rw[e];split<;>omega
end
def gz(g:BA→BA)(p:Pr):BA→BA:=fun v=>if v=p.1∨v=p.2 then ck (g p.1) (g p.2)else g v
def pI(g:BA→BA)(p:Pr):Bool:=decide (g p.1≠ck (g p.1) (g p.2))||decide (g p.2≠ck (g p.1) (g p.2))
def gQ(g:BA→BA)(L:List Pr):BA→BA:=L.foldl gz g
def qJ(g:BA→BA):List Pr→Bool
 | []=>false
 |p::L=>pI g p||qJ (gz g p) L
theorem Ca(g:BA→BA)(L:List Pr)(p:Pr):gQ g (L++[p])=gz (gQ g L) p:=by simp[gQ]
theorem sC:∀(L:List Pr)(g:BA→BA)(p:Pr),qJ g (L++[p])=(qJ g L||pI (gQ g L) p)
 | [],g,p=>by simp[qJ,gQ]
 |q::L,g,p=>by
  show(pI g q||qJ (gz g q) (L++[p]))=_;rw[sC L];simp[qJ,gQ,Bool.or_assoc]
theorem EU(a b:BA):ck a b=a∨ck a b=b:=by unfold ck;split<;>simp
theorem Cb{g:BA→BA}{p:Pr}(h:pI g p=false):gz g p=g∧g p.1=g p.2:=by
 unfold pI at h;simp only[Bool.or_eq_false_iff,decide_eq_false_iff_not,Decidable.not_not]at h;obtain⟨a,b⟩:=h;refine⟨funext fun v=>?_,a.trans b.symm⟩;unfold gz;split
 ·rename_i e;rcases e with rfl|rfl
  ·exact a.symm
  ·exact b.symm
 ·rfl
theorem sD:∀(L:List Pr)(g:BA→BA),qJ g L=false→gQ g L=g∧∀p∈L,g p.1=g p.2
 | [],_,_=>⟨rfl,fun _ h=>(by cases h)⟩
 |q::L,g,h=>by
  unfold qJ at h;rw[Bool.or_eq_false_iff]at h;obtain⟨a,b⟩:=Cb h.1;rw[a]at h;obtain⟨k1,k2⟩:=sD L g h.2;refine⟨by show gQ (gz g q) L=g;rw[a,k1],fun p hp=>?_⟩;rcases List.mem_cons.1 hp with rfl|hp
  ·exact b
  ·exact k2 p hp
def iM(V:List BA)(x:BA):Nat:=(V.filter fun y=>fK y x).length
def fq(V:List BA)(g:BA→BA):List BA→Nat
 | []=>0
 |v::L=>iM V (g v)+fq V g L
theorem AU{α:Type}(p q:α→Bool)(h:∀a,p a=true→q a=true):∀L:List α,(L.filter p).length≤(L.filter q).length
 | []=>Nat.le_refl _
 |a::L=>by
  have c:=AU p q h L;cases e:p a with
  |true=>rw[List.filter_cons_of_pos e,List.filter_cons_of_pos (h a e),List.length_cons,List.length_cons];omega
  |false=>
   rw[List.filter_cons_of_neg (by simp[e])];cases b:q a with
   |true=>rw[List.filter_cons_of_pos b,List.length_cons];omega
   |false=>rw[List.filter_cons_of_neg (by simp[b])];exact c
theorem AV{α:Type}(p q:α→Bool)(h:∀a,p a=true→q a=true):∀(L:List α){x:α},x∈L→p x=false→q x=true→(L.filter p).length<(L.filter q).length
 | [],_,hx,_,_=>by cases hx
 |a::L,x,hx,b,c=>by
  rcases List.mem_cons.1 hx with rfl|hx
  ·rw[List.filter_cons_of_neg (by simp[b]),List.filter_cons_of_pos c,List.length_cons];have:=AU p q h L;omega
  ·have f:=AV p q h L hx b c;cases e:p a with
   |true=>rw[List.filter_cons_of_pos e,List.filter_cons_of_pos (h a e),List.length_cons,List.length_cons];omega
   |false=>
    rw[List.filter_cons_of_neg (by simp[e])];cases d:q a with
    |true=>rw[List.filter_cons_of_pos d,List.length_cons];omega
    |false=>rw[List.filter_cons_of_neg (by simp[d])];exact f
theorem AW{V:List BA}{a b:BA}(ha:a∈V)(h:fK a b=true):iM V a<iM V b:=
 AV _ _ (fun _ hy=>dg hy h) V ha (bj a) h
theorem EV(V:List BA){a b:BA}(ha:a∈V)(hb:b∈V):iM V (ck a b)≤iM V a∧iM V (ck a b)≤iM V b∧(ck a b≠a→iM V (ck a b)<iM V a)∧(ck a b≠b→iM V (ck a b)<iM V b):=by
 unfold ck;cases e:fK b a with
 |true=>
  have:=AW hb e;simp;omega
 |false=>
  simp;by_cases g:a=b
  ·subst g;simp
  ·have:=AW ha (gL e (fun e=>g e.symm));omega
structure vU(B:List Pr)(V:List BA)(g:BA→BA):Prop where
 mem:∀v∈V,g v∈V
 conn:∀v∈V,fe B v (g v)
theorem vU.start(B:List Pr)(V:List BA):vU B V id:=⟨fun _ h=>h,fun v _=>fe.refl B v⟩
theorem vU.congr{B:List Pr}{V:List BA}{g h:BA→BA}(hj:vU B V g)(e:∀v∈V,g v=h v):vU B V h:=⟨fun v hv=>by rw[←e v hv];exact hj.mem v hv,fun v hv=>by rw[←e v hv];exact hj.conn v hv⟩
theorem vU.step{B:List Pr}{V:List BA}{g:BA→BA}(h:vU B V g){p:Pr}(hp:p∈B)(c:p.1∈V)(d:p.2∈V):vU B V (gz g p):=by
 have a:ck (g p.1) (g p.2)∈V:=by
  rcases EU (g p.1) (g p.2)with e|e<;>rw[e]
  ·exact h.mem _ c
  ·exact h.mem _ d
 have b:fe B p.1 p.2:=fe.one hp;have c1:fe B p.1 (ck (g p.1) (g p.2)):=by
  rcases EU (g p.1) (g p.2)with e|e<;>rw[e]
  ·exact h.conn _ c
  ·exact b.trans (h.conn _ d)
 refine⟨fun v hv=>?_,fun v hv=>?_⟩
 ·unfold gz;split
  ·exact a
  ·exact h.mem v hv
 ·unfold gz;split
  ·rename_i e;rcases e with rfl|rfl
   ·exact c1
   ·exact b.symm.trans c1
  ·exact h.conn v hv
theorem EW{V:List BA}{g h:BA→BA}:∀ {L:List BA},(∀v∈L,iM V (h v)≤iM V (g v))→fq V h L≤fq V g L∧∀v∈L,iM V (h v)<iM V (g v)→fq V h L<fq V g L
 | [],_=>⟨Nat.le_refl _,fun _ h=>(by cases h)⟩
 |a::L,c=>by
  obtain⟨i1,i2⟩:=EW (L:=L) fun v hv=>c v (List.mem_cons_of_mem _ hv);have ha:=c a (List.mem_cons_self ..);unfold fq;refine⟨O9,fun v hv b=>?_⟩;rcases List.mem_cons.1 hv with rfl|hv
  ·omega
  ·have:=i2 v hv b;omega
theorem vU.less{B:List Pr}{V:List BA}{g:BA→BA}(h:vU B V g){p:Pr}(b:p.1∈V)(c:p.2∈V):fq V (gz g p) V≤fq V g V∧(pI g p=true→fq V (gz g p) V<fq V g V):=by
 obtain⟨m1,m2,m3,m4⟩:=EV V (h.mem _ b) (h.mem _ c);have d:gz g p p.1=ck (g p.1) (g p.2):=if_pos (.inl rfl);have f:gz g p p.2=ck (g p.1) (g p.2):=if_pos (.inr rfl);have key:=EW (V:=V) (g:=g) (h:=gz g p) (L:=V) fun v hv=>by
  unfold gz;split
  ·rename_i e;rcases e with rfl|rfl
   ·exact m1
   ·exact m2
  ·exact Nat.le_refl _
 refine⟨key.1,fun a=>?_⟩;unfold pI at a;simp only[Bool.or_eq_true,decide_eq_true_eq]at a;rcases a with a|a
 ·exact key.2 p.1 b (by rw[d];exact m3 (fun e=>a e.symm))
 ·exact key.2 p.2 c (by rw[f];exact m4 (fun e=>a e.symm))
def EX(B:List Pr)(V:List BA):Prop:=V.Nodup∧∀v,v∈V↔∃p∈B,fj p v
theorem EX.steps{l:List Ob}{V:List BA}(h:EX (af l) V)(v:BA):v∈V↔∃s∈an l,s.1=v:=by
 rw[h.2];constructor
 ·rintro⟨p,hp,rfl|rfl⟩
  ·exact⟨p,List.mem_append_left _ hp,rfl⟩
  ·exact⟨swp p,bI.2 (List.mem_append_left _ hp),rfl⟩
 ·rintro⟨s,hs,rfl⟩;obtain⟨p,hp,e,_⟩:=gH hs;exact⟨p,hp,e⟩
theorem vU.labels{l:List Ob}{V:List BA}{g:BA→BA}(hv:EX (af l) V)(h:vU (af l) V g)(hb:∀p∈af l,g p.1=g p.2):tW l g∧(V.filter fun v=>decide (v=g v)).Nodup∧∀k,k∈V.filter (fun v=>decide (v=g v))↔∃s∈an l,g s.1=k:=by
 have hm:∀s∈an l,s.1∈V:=fun s hs=>(hv.steps _).2 ⟨s,hs,rfl⟩;refine⟨⟨hb,fun s hs t c e=>?_⟩,hv.1.filter _,fun k=>?_⟩
 ·have a:=h.conn _ (hm s hs);have b:=h.conn _ (hm t c);rw[←e]at b;exact a.trans b.symm
 ·rw[List.mem_filter,decide_eq_true_eq];constructor
  ·rintro⟨d,f⟩;obtain⟨s,hs,rfl⟩:=(hv.steps k).1 d;exact⟨s,hs,f.symm⟩
  ·rintro⟨s,hs,rfl⟩;exact⟨h.mem _ (hm s hs),(h.conn _ (hm s hs)).keep g hb⟩
end Go.Proofs.Pf
namespace Go.Proofs.Pto
open Go Go.Proofs.Pg Go.Proofs.Px Go.Proofs.Pn
structure Bx where
 x0:Int
 y0:Int
 x1:Int
 y1:Int
deriving DecidableEq
def I9(a b:Bx):Bool:=decide (a.x0≤b.x1)&&(decide (b.x0≤a.x1)&&(decide (a.y0≤b.y1)&&decide (b.y0≤a.y1)))
abbrev Lf:=Bx×BA
def hitL(q:Bx)(l:List Lf):List BA:=(l.filter (fun x=>I9 x.1 q)).map (·.2)
def tx(b:UInt8):BA:=⟨#[b]⟩
