/-
  The plain laws of layer 14 (face).
-/
import Derived.Test.YtfkgjbdeicggaaaGreatZE
namespace Go.Proofs.Pf
open Go.Proofs.Pg Go.Proofs.Pri
structure GB(D:List Dart)(φ:Dart→Dart):Prop where
 mem:∀s∈D,φ s∈D
 head:∀s∈D,(φ s).1=s.2
 inj:∀s∈D,∀t∈D,φ s=φ t→s=t
 out:∀s∈D,∀x,(s.2,x)∈D→x≠s.1→x≠(φ s).2→(φ s).2≠s.1∧Out s.1 s.2 (φ s).2 x
theorem rX{D L:List Dart}{φ:Dart→Dart}(c:Gr D)(hr:GB D φ)(a:ko D L){s:Dart}(hs:s∈D):F L (φ s)=F L s:=by
 have b:=hr.mem s hs;have d:=hr.head s hs;obtain⟨u,v⟩:=s;have e:φ (u,v)=(v,(φ (u,v)).2):=Prod.ext d rfl;rw[e];rw[e]at b;exact(Em c a.1 a.2 hs b fun x hx f g=>hr.out _ hs x hx f g).symm
structure Er(D:List Dart)(φ:Dart→Dart)(c:List Dart):Prop where
 sub:∀s∈c,s∈D
 ne:c≠[]
 nd:c.Nodup
 perm:(c.map φ).Perm c
 one:∀h:Dart→Int,(∀s∈D,h (φ s)=h s)→∀s∈c,∀t∈c,h s=h t
theorem o7{D c:List Dart}{φ:Dart→Dart}(hr:GB D φ)(hs:∀s∈c,s∈D)(hp:(c.map φ).Perm c):da c:=fun u=>by
 rw[jr,←jd hp (f:=fun s=>u s.1),dq,aR (f:=fun s=>u s.2) (g:=fun s=>u (φ s).1) fun s h=>by rw[hr.head s (hs s h)]];omega
theorem Er.chn{D c:List Dart}{φ:Dart→Dart}(hr:GB D φ)(h:Er D φ c):ko D c:=⟨h.sub,o7 hr h.sub h.perm⟩
theorem Er.phi{D c:List Dart}{φ:Dart→Dart}(hr:GB D φ)(h:Er D φ c){s:Dart}(hs:s∈D):φ s∈c↔s∈c:=by
 constructor
 ·intro a;obtain⟨t,b,he⟩:=List.mem_map.1 (h.perm.mem_iff.2 a);rw[←hr.inj t (h.sub t b) s hs he];exact b
 ·intro a;exact h.perm.mem_iff.1 (List.mem_map.2 ⟨s,a,rfl⟩)
def ind(c:List Dart)(s:Dart):Int:=if s∈c then 1 else 0
theorem ow{c:List Dart}(h:c.Nodup)(s:Dart):sl (fun t=>if t=s then (1:Int)else 0) c=ind c s:=by
 unfold ind;induction c with
 |nil=>rfl
 |cons a c d=>
  obtain⟨f,g⟩:=List.nodup_cons.1 h;rw[aV,d g];by_cases e:a=s
  ·subst e;rw[if_pos rfl,if_neg f,if_pos (List.mem_cons_self ..)];rfl
  ·rw[if_neg e];by_cases b:s∈c
   ·rw[if_pos b,if_pos (List.mem_cons_of_mem _ b)];rfl
   ·rw[if_neg b,if_neg (by intro h;rcases List.mem_cons.1 h with h|h;exact e h.symm;exact b h)];rfl
theorem yc{c:List Dart}(h:c.Nodup)(s:Dart):zz c s=ind c s-ind c (bk s):=by
 unfold zz;rw[jr,ow h,ow h]
theorem ox{L:List Dart}{s:Dart}(b:s∉L)(c:bk s∉L):zz L s=0:=jc fun t a=>by
 rw[if_neg (fun e=>b (by rw[←e];exact a)),if_neg (fun e=>c (by rw[←e];exact a))];rfl
noncomputable def gT(P:Prop):Int:=@ite _ P (Classical.propDecidable _) 1 0
theorem cH{P:Prop}(h:P):gT P=1:=if_pos h
theorem eo{P:Prop}(h:¬P):gT P=0:=if_neg h
theorem nt{D L:List Dart}(b:Gr D)(c:ko D L)(S:Int→Prop)(i:S 0)(d:∀t∈L,S (F L t)∧S (F L (bk t))):∀s∈D,S (F L s):=by
 intro s hs;have j:Flat D (fun s=>gT (S (F L s))):=by
  refine⟨fun s hs=>?_,fun s hs t l he=>?_⟩
  ·show gT (S (F L (bk s)))=gT (S (F L s));by_cases e:s∈L
   ·have:=d s e;rw[cH this.1,cH this.2]
   ·by_cases f:bk s∈L
    ·have:=d _ f;rw[kK]at this;rw[cH this.1,cH this.2]
    ·have a:=tI (L:=L) (b.ne s hs);rw[ox e f]at a;have:F L (bk s)=F L s:=O9;rw[this]
  ·show gT (S (F L s))=gT (S (F L t));rw[he L c]
 obtain⟨r,hr,a,k⟩:=iB b j hs;have g:gT (S (F L s))=gT (S (F L r)):=k;rw[a L c,cH i]at g;by_cases h:S (F L s)
 ·exact h
 ·rw[eo h]at g;omega
theorem GC{D c:List Dart}{φ:Dart→Dart}(i:Gr D)(hr:GB D φ)(g:Er D φ c){s:Dart}(hs:s∈c):(∀L,ko D L→F L s=0)∨∃u∈D,u.1.y≠u.2.y∧∀L,ko D L→F L s=F L u:=by
 have same:∀t∈c,∀L,ko D L→F L s=F L t:=fun t d L f=>g.one (F L) (fun u hu=>rX i hr f hu) s hs t d;by_cases j:∃t∈c,t.1.y≠t.2.y
 ·obtain⟨t,d,hy⟩:=j;exact .inr ⟨t,g.sub t d,hy,same t d⟩
 ·have k:∀t∈c,t.1.y=t.2.y:=fun t d=>by
   by_cases e:t.1.y=t.2.y
   ·exact e
   ·exact absurd ⟨t,d,e⟩ j
  by_cases l:∃t∈c,t.1.x<t.2.x
  ·obtain⟨t,d,hx⟩:=l;rcases qm i (g.sub t d) (k t d) hx with h|⟨u,hu,hy,h⟩
   ·exact .inl fun L f=>(same t d L f).trans (h L f)
   ·exact .inr ⟨u,hu,hy,fun L f=>(same t d L f).trans (h L f)⟩
  ·exfalso;have n:=(g.chn hr).2 fun p=> -p.x;have m:∀t∈c,0< -t.2.x- -t.1.x:=fun t d=>by
    have a:=k t d;have b:=pt_ne (i.ne t (g.sub t d));have:¬t.1.x<t.2.x:=fun e=>l ⟨t,d,e⟩;omega
   have o:=(rR fun t d=>Int.le_of_lt (m t d)).2 s hs;have q:=m s hs;omega
structure bJ(D:List Dart)(φ:Dart→Dart)(cs:List (List Dart)):Prop where
 gr:Gr D
 nd:D.Nodup
 rot:GB D φ
 orb:∀c∈cs,Er D φ c
 all:cs.flatten.Perm D
theorem bJ.in_orb{D:List Dart}{φ:Dart→Dart}{cs:List (List Dart)}(h:bJ D φ cs){s:Dart}(hs:s∈D):∃c∈cs,s∈c:=List.mem_flatten.1 (h.all.mem_iff.2 hs)
def oy(D:List Dart)(s t:Dart):Prop:=∀L,ko D L→F L s=F L t
def Es(D:List Dart)(s:Dart):Prop:=∀L,ko D L→F L s=0
theorem bJ.area{D L:List Dart}{φ:Dart→Dart}{cs:List (List Dart)}(h:bJ D φ cs)(a:ko D L)(hF:∀s∈D,0≤F L s):0≤tw L∧((∃s∈D,0<F L s)→0<tw L):=by
 obtain⟨d,e⟩:=Ep h.gr a hF;refine⟨d,fun⟨s,hs,hp⟩=>e ?_⟩;obtain⟨c,f,b⟩:=h.in_orb hs;rcases GC h.gr h.rot (h.orb c f) b with g|⟨u,hu,hy,he⟩
 ·rw[g L a]at hp;omega
 ·exact⟨u,hu,hy,by rw[←he L a];exact hp⟩
theorem bJ.less{D L M:List Dart}{φ:Dart→Dart}{cs:List (List Dart)}(h:bJ D φ cs)(c:ko D L)(d:ko D M)(hF:∀s∈D,F L s≤F M s)(a:∃s∈D,F L s<F M s):tw L<tw M:=by
 have hb:∀t∈L.map bk,t∈D:=fun t b=>by
  obtain⟨u,hu,rfl⟩:=List.mem_map.1 b;exact h.gr.back u (c.1 u hu)
 have f:ko D (M++L.map bk):=⟨fun t b=>(List.mem_append.1 b).elim (d.1 t) (hb t),d.2.app c.2.back⟩;have e:∀s,F (M++L.map bk) s=F M s-F L s:=fun s=>by rw[Hw,qj];omega
 have:=(h.area f (fun s hs=>by rw[e];have:=hF s hs;omega)).2 (by
  obtain⟨s,hs,hp⟩:=a;exact⟨s,hs,by rw[e];omega⟩)
 rw[Ix,tL]at this;omega
noncomputable def mX(D:List Dart)(P:Dart→Prop):List Dart:=D.filter fun s=>@decide (P s) (Classical.propDecidable _)
theorem bM{D:List Dart}{P:Dart→Prop}{s:Dart}:s∈mX D P↔s∈D∧P s:=by
 unfold mX;rw[List.mem_filter];simp
theorem Et{D:List Dart}(h:D.Nodup)(P:Dart→Prop):(mX D P).Nodup:=h.filter _
theorem nu{φ:Dart→Dart}{l:List Dart}(h:l.Nodup)(hi:∀s∈l,∀t∈l,φ s=φ t→s=t):(l.map φ).Nodup:=by
 induction l with
 |nil=>exact List.nodup_nil
 |cons a l c=>
  obtain⟨d,e⟩:=List.nodup_cons.1 h;rw[List.map_cons,List.nodup_cons];refine⟨fun hm=>?_,c e fun s hs t f=>hi s (List.mem_cons_of_mem _ hs) t (List.mem_cons_of_mem _ f)⟩;obtain⟨b,hb,he⟩:=List.mem_map.1 hm;have:=hi b (List.mem_cons_of_mem _ hb) a (List.mem_cons_self ..) he;exact d (this▸hb)
theorem o8{l m:List Dart}(f:l.Nodup)(hs:∀a∈l,a∈m)(d:m.length≤l.length):l.Perm m:=by
 induction l generalizing m with
 |nil=>
  have:m=[]:=List.eq_nil_of_length_eq_zero (by simpa using d);rw[this]
 |cons a l g=>
  obtain⟨h,i⟩:=List.nodup_cons.1 f;have ha:=hs a (List.mem_cons_self ..);have hp:=List.perm_cons_erase ha;have hlen:(m.erase a).length=m.length-1:=List.length_erase_of_mem ha;refine(List.Perm.cons a (g i (fun b hb=>?_) (by simp at d;omega))).trans hp.symm;have c:=hs b (List.mem_cons_of_mem _ hb);have:b≠a:=fun e=>h (e▸hb);exact(List.mem_erase_of_ne this).2 c
theorem GB.perm{D U:List Dart}{φ:Dart→Dart}(hr:GB D φ)(c:∀s∈U,s∈D)(d:U.Nodup)(e:∀s∈U,φ s∈U):(U.map φ).Perm U:=
 o8 (nu d fun s hs t f=>hr.inj s (c s hs) t (c t f)) (fun a ha=>by
  obtain⟨b,hb,rfl⟩:=List.mem_map.1 ha;exact e b hb) (by rw[List.length_map];omega)
theorem bJ.sel_chn{D:List Dart}{φ:Dart→Dart}{cs:List (List Dart)}(h:bJ D φ cs){P:Dart→Prop}(b:∀s∈D,∀t∈D,oy D s t→(P s↔P t)):ko D (mX D P):=by
 refine⟨fun s hs=>(bM.1 hs).1,o7 h.rot (fun s hs=>(bM.1 hs).1) (h.rot.perm (fun s hs=>(bM.1 hs).1) (Et h.nd P) fun s hs=>?_)⟩;obtain⟨a,c⟩:=bM.1 hs;exact bM.2 ⟨h.rot.mem s a,(b s a _ (h.rot.mem s a) fun L d=>(rX h.gr h.rot d a).symm).1 c⟩
theorem bJ.sel_F{D:List Dart}{φ:Dart→Dart}{cs:List (List Dart)}(h:bJ D φ cs){P:Dart→Prop}(d:∀s∈D,∀t∈D,oy D s t→(P s↔P t))(i:∀r∈D,Es D r→¬P r){s:Dart}(hs:s∈D):F (mX D P) s=ind (mX D P) s:=by
 have f:=h.sel_chn d;have j:Flat D (fun s=>F (mX D P) s-ind (mX D P) s):=by
  refine⟨fun s hs=>?_,fun s hs t g he=>?_⟩
  ·have:=tI (L:=mX D P) (h.gr.ne s hs);rw[yc (Et h.nd P)]at this;show F (mX D P) (bk s)-ind (mX D P) (bk s)=F (mX D P) s-ind (mX D P) s;omega
  ·have b:=he _ f;have c:ind (mX D P) s=ind (mX D P) t:=by
    unfold ind;have:=d s hs t g he;by_cases e:P s
    ·rw[if_pos (bM.2 ⟨hs,e⟩),if_pos (bM.2 ⟨g,this.1 e⟩)]
    ·rw[if_neg fun a=>e (bM.1 a).2,if_neg fun a=>e (this.2 (bM.1 a).2)]
   show F (mX D P) s-ind (mX D P) s=F (mX D P) t-ind (mX D P) t;rw[b,c]
 obtain⟨r,hr,b,c⟩:=iB h.gr j hs;have k:ind (mX D P) r=0:=if_neg fun a=>i r hr b (bM.1 a).2;have l:F (mX D P) s-ind (mX D P) s=F (mX D P) r-ind (mX D P) r:=c;rw[b _ f,k]at l;omega
structure pH{κ:Type}(D:List Dart)(φ:Dart→Dart)(lab:Dart→κ):Prop where
 bk:∀s∈D,lab (bk s)=lab s
 phi:∀s∈D,lab (φ s)=lab s
 one:∀h:Dart→Int,(∀s∈D,h (Pf.bk s)=h s)→(∀s∈D,h (φ s)=h s)→∀s∈D,∀t∈D,lab s=lab t→h s=h t
theorem yd{D:List Dart}(h:Gr D){P:Dart→Prop}(c:∀s∈D,P s→P (bk s)):Gr (mX D P):=by
 refine⟨fun s hs=>h.ne s (bM.1 hs).1,fun s hs=>?_,fun s hs t a=>h.cor s (bM.1 hs).1 t (bM.1 a).1,fun s hs t a=>h.far s (bM.1 hs).1 t (bM.1 a).1⟩;obtain⟨b,d⟩:=bM.1 hs;exact bM.2 ⟨h.back s b,c s b d⟩
theorem oE(D:List Dart):Flat D fun _=>0:=⟨fun _ _=>rfl,fun _ _ _ _ _=>rfl⟩
theorem Er.lab{κ:Type}{D c:List Dart}{φ:Dart→Dart}{lab:Dart→κ}(a:pH D φ lab)(h:Er D φ c){s t:Dart}(hs:s∈c)(b:t∈c):lab s=lab t:=by
 have:=h.one (fun u=>gT (lab u=lab t)) (fun u hu=>by show gT (lab (φ u)=lab t)=gT (lab u=lab t);rw[a.phi u hu]) s hs t b;have e:gT (lab s=lab t)=gT (lab t=lab t):=this;rw[cH (P:=lab t=lab t) rfl]at e;by_cases g:lab s=lab t
 ·exact g
 ·rw[eo g]at e;omega
theorem Eu{cs:List (List Dart)}(g:cs.flatten.Nodup){c f:List Dart}(h:c∈cs)(i:f∈cs){s:Dart}(hs:s∈c)(d:s∈f):c=f:=by
 induction cs with
 |nil=>cases h
 |cons a cs k=>
  rw[List.flatten_cons,List.nodup_append]at g;obtain⟨_,l,j⟩:=g;rcases List.mem_cons.1 h with e|e
  ·rcases List.mem_cons.1 i with b|b
   ·rw[e,b]
   ·exact absurd rfl (j s (e▸hs) s (List.mem_flatten.2 ⟨f,b,d⟩))
  ·rcases List.mem_cons.1 i with b|b
   ·exact absurd rfl (j s (b▸d) s (List.mem_flatten.2 ⟨c,e,hs⟩))
   ·exact k l e b
section
variable {κ:Type} {D:List Dart} {φ:Dart→Dart} {cs:List (List Dart)} {lab:Dart→κ}
theorem bJ.fnd(h:bJ D φ cs):cs.flatten.Nodup:=h.all.nodup_iff.2 h.nd
theorem bJ.same(h:bJ D φ cs){c a:List Dart}(e:c∈cs)(b:a∈cs){s:Dart}(hs:s∈c)(d:s∈a):c=a:=Eu h.fnd e b hs d
theorem bJ.root(h:bJ D φ cs)(i:pH D φ lab){b:Dart}(m:b∈D):∃r∈D,lab r=lab b∧∀c∈cs,(∃s∈c,lab s=lab b)→∀s∈D,lab s=lab b→F c s=ind c s-ind c r:=by
 have n:=yd h.gr (P:=fun s=>lab s=lab b) fun s hs e=>by rw[i.bk s hs];exact e
 obtain⟨r,hr,o,_⟩:=iB n (oE _) (bM.2 ⟨m,rfl⟩);obtain⟨d,f⟩:=bM.1 hr;refine⟨r,d,f,fun c p ⟨t,q,j⟩ s hs k=>?_⟩;have g:=h.orb c p;have l:=g.chn h.rot;have v:F c r=0:=o c ⟨fun u hu=>bM.2 ⟨g.sub u hu,(g.lab i hu q).trans j⟩,l.2⟩;have:=i.one (fun s=>F c s-ind c s) (fun u hu=>by
  have a:=tI (L:=c) (h.gr.ne u hu);rw[yc g.nd]at a;show F c (bk u)-ind c (bk u)=F c u-ind c u;omega) (fun u hu=>by
  show F c (φ u)-ind c (φ u)=F c u-ind c u;rw[rX h.gr h.rot l hu];unfold ind;simp only[g.phi h.rot hu]) s hs r d (k.trans f.symm)
 have e:F c s-ind c s=F c r-ind c r:=this;omega
def gx(c:List Dart):Prop:=0<tw c
theorem Er.pick{c:List Dart}(h:Er D φ c):∃s,s∈c:=List.exists_mem_of_ne_nil c h.ne
theorem bJ.kinds(h:bJ D φ cs)(k:pH D φ lab){c:List Dart}(m:c∈cs){r i:Dart}(f:i∈c)
  (hr:∀s∈D,lab s=lab i→F c s=ind c s-ind c r):
  (r∉c→gx c∧∀s∈D,F c s=0∨F c s=1)∧(r∈c→¬gx c∧∀s∈D,F c s=0∨F c s= -1):=by
 have g:=h.orb c m;have j:=g.chn h.rot;have l:∀t∈c,lab t=lab i:=fun t d=>g.lab k d f;have i1:∀t,t∈c→ind c t=1:=fun t d=>if_pos d;have i2:∀t,ind c t=0∨ind c t=1:=fun t=>by unfold ind;split<;>omega
 have f1:∀t∈c,F c t=1-ind c r:=fun t d=>by rw[hr t (g.sub t d) (l t d),i1 t d]
 have f2:∀t∈c,F c (bk t)=ind c (bk t)-ind c r:=fun t d=>hr _ (h.gr.back t (g.sub t d)) ((k.bk t (g.sub t d)).trans (l t d));constructor
 ·intro n;have o:ind c r=0:=if_neg n;have hF:=nt h.gr j (fun x=>x=0∨x=1) (.inl rfl) fun t d=>by
   have a:=f1 t d;have b:=f2 t d;have:=i2 (bk t);constructor<;>omega
  refine⟨(h.area j fun s hs=>?_).2 ⟨i,g.sub i f,?_⟩,hF⟩
  ·rcases hF s hs with e|e<;>rw[e]<;>omega
  ·rw[f1 i f];omega
 ·intro hy;have o:ind c r=1:=if_pos hy;have hF:=nt h.gr j (fun x=>x=0∨x= -1) (.inl rfl) fun t d=>by
   have a:=f1 t d;have b:=f2 t d;have:=i2 (bk t);constructor<;>omega
  refine⟨fun hp=>?_,hF⟩;have hb:ko D (c.map bk):=⟨fun t d=>by
   obtain⟨u,hu,rfl⟩:=List.mem_map.1 d;exact h.gr.back u (g.sub u hu),j.2.back⟩
  have:=(h.area hb fun s hs=>by
   rw[qj];rcases hF s hs with e|e<;>rw[e]<;>omega).1
  rw[tL]at this;unfold gx at hp;omega
theorem bJ.outer_F(h:bJ D φ cs)(f:pH D φ lab){c:List Dart}(d:c∈cs)(j:gx c){b:Dart}(a:b∈c):(∀s∈D,F c s=0∨F c s=1)∧∀s∈D,lab s=lab b→F c s=ind c s:=by
 obtain⟨r,hr,k,l⟩:=h.root f ((h.orb c d).sub b a);have g:=l c d ⟨b,a,rfl⟩;obtain⟨k1,k2⟩:=h.kinds f d a g;have i:r∉c:=fun e=>(k2 e).1 j;refine⟨(k1 i).2,fun s hs m=>?_⟩;rw[g s hs m,show ind c r=0 from if_neg i];omega
theorem bJ.outer_one(h:bJ D φ cs)(b:pH D φ lab){c:List Dart}(a:c∈cs)(d:gx c){s:Dart}(hs:s∈c):F c s=1:=by
 rw[(h.outer_F b a d hs).2 s ((h.orb c a).sub s hs) rfl];exact if_pos hs
theorem bJ.rim(h:bJ D φ cs)(j:pH D φ lab){k:Dart}(n:k∈D):∃c∈cs,¬gx c∧(∀s∈c,lab s=lab k)∧∀f∈cs,¬gx f→(∃s∈f,lab s=lab k)→f=c:=by
 obtain⟨r,hr,b,m⟩:=h.root j n;obtain⟨c,g,a⟩:=h.in_orb hr;have o:=h.orb c g;refine⟨c,g,?_,fun s hs=>(o.lab j hs a).trans b,fun f d p ⟨s,hs,i⟩=>?_⟩
 ·exact((h.kinds j g a (r:=r) fun s hs l=>m c g ⟨r,a,b⟩ s hs (l.trans b)).2 a).1
 ·by_cases e:r∈f
  ·exact h.same d g e a
  ·exact absurd ((h.kinds j d hs (r:=r) fun t q l=>m f d ⟨s,hs,i⟩ t q (l.trans i)).1 e).1 p
theorem bJ.other(h:bJ D φ cs)(d:pH D φ lab){c:List Dart}(l:c∈cs){b:Dart}(f:b∈c){s t:Dart}(hs:s∈D)(m:t∈D)(k:lab s=lab t)(g:lab s≠lab b):F c s=F c t:=by
 have j:=h.orb c l;have n:=j.chn h.rot;have key:=d.one (fun u=>(1-gT (lab u=lab b))*F c u) (fun u hu=>by
  show(1-gT (lab (bk u)=lab b))*F c (bk u)=(1-gT (lab u=lab b))*F c u;rw[d.bk u hu];by_cases e:lab u=lab b
  ·rw[cH e];simp
  ·have o:u∉c:=fun i=>e (j.lab d i f);have p:bk u∉c:=fun i=>e ((d.bk u hu).symm.trans (j.lab d i f));have a:=tI (L:=c) (h.gr.ne u hu);rw[ox o p]at a;rw[show F c (bk u)=F c u by omega]) (fun u hu=>by
  show(1-gT (lab (φ u)=lab b))*F c (φ u)=(1-gT (lab u=lab b))*F c u;rw[d.phi u hu,rX h.gr h.rot n hu]) s hs t m k
 have e:(1-gT (lab s=lab b))*F c s=(1-gT (lab t=lab b))*F c t:=key;rw[eo g,eo (fun i=>g (k.trans i))]at e;omega
theorem bJ.nest(h:bJ D φ cs)(d:pH D φ lab){c f:List Dart}(o:c∈cs)(g:f∈cs){s i:Dart}(hs:s∈c)(b:i∈f)(j:lab s≠lab i):¬(F c i=1∧F f s=1):=by
 rintro⟨t,v⟩;have k:=h.orb c o;have a:=h.orb f g;have q:=yd h.gr (P:=fun u=>lab u=lab s∨lab u=lab i) fun u hu e=>by rw[d.bk u hu];exact e
 obtain⟨r,hr,p,_⟩:=iB q (oE _) (bM.2 ⟨k.sub s hs,.inl rfl⟩);obtain⟨l,m⟩:=bM.1 hr;have w:=p c ⟨fun u hu=>bM.2 ⟨k.sub u hu,.inl (k.lab d hu hs)⟩,(k.chn h.rot).2⟩;have z2:=p f ⟨fun u hu=>bM.2 ⟨a.sub u hu,.inr (a.lab d hu b)⟩,(a.chn h.rot).2⟩;rcases m with e|e
 ·have:=h.other d g b l (k.sub s hs) e (fun n=>j (e.symm.trans n));omega
 ·have:=h.other d o hs l (a.sub i b) e (fun n=>j (n.symm.trans e));omega
theorem oy.symm{s t:Dart}(h:oy D s t):oy D t s:=fun L a=>(h L a).symm
theorem oy.trans{s t u:Dart}(h:oy D s t)(b:oy D t u):oy D s u:=fun L a=>(h L a).trans (b L a)
theorem bJ.sim_orb(h:bJ D φ cs){c:List Dart}(a:c∈cs){s t:Dart}(hs:s∈c)(b:t∈c):oy D s t:=fun L d=>(h.orb c a).one (F L) (fun _ hu=>rX h.gr h.rot d hu) s hs t b
theorem bJ.tw_sel(h:bJ D φ cs){P:Dart→Prop}(d:∀c∈cs,∀s∈c,∀t∈c,P s→P t):tw (mX D P)=sl (fun c=>gT (∀s∈c,P s)*tw c) cs:=by
 have f:∀l:List Dart,tw (mX l P)=sl (fun s=>gT (P s)*(s.1.x*s.2.y-s.2.x*s.1.y)) l:=by
  intro l;induction l with
  |nil=>rfl
  |cons a l g=>
   rw[aV,←g];unfold mX tw;by_cases e:P a
   ·rw[List.filter_cons_of_pos (by simpa using e),aV,cH e];omega
   ·rw[List.filter_cons_of_neg (by simpa using e),eo e];omega
 rw[f,←jd h.all,show cs.flatten=cs.flatMap id from by rw[List.flatMap_id],Az];refine aR fun c b=>?_;obtain⟨m,i⟩:=(h.orb c b).pick;show sl _ c=_;unfold tw;rw[←iA];refine aR fun s hs=>?_;by_cases e:P s
 ·rw[cH e,cH fun t j=>d c b s hs t j e]
 ·rw[eo e,eo fun k=>e (k s hs)]
theorem bJ.face(h:bJ D φ cs){t:Dart}(d:t∈D)(hb:¬Es D t):∃c∈cs,gx c∧(∀s∈c,oy D t s)∧0<sl (fun c=>gT (∀s∈c,oy D t s)*tw c) cs:=by
 have g:∀s∈D,∀u∈D,oy D s u→(oy D t s↔oy D t u):=fun s _ u _ e=>⟨fun a=>a.trans e,fun a=>a.trans e.symm⟩;have b:=h.sel_chn g;have hF:=fun(s:Dart)(hs:s∈D)=>h.sel_F g (fun r _ hr e=>hb fun L b=>(e L b).trans (hr L b)) hs;have hp:0<tw (mX D (oy D t)):=(h.area b fun s hs=>by rw[hF s hs];unfold ind;split<;>omega).2 ⟨t,d,by
  rw[hF t d];unfold ind;rw[if_pos (bM.2 ⟨d,fun _ _=>rfl⟩)];omega⟩
 rw[h.tw_sel fun c f s hs u hu e=>e.trans (h.sim_orb f hs hu)]at hp;by_cases he:∃c∈cs,gx c∧∀s∈c,oy D t s
 ·obtain⟨c,i,j,k⟩:=he;exact⟨c,i,j,k,hp⟩
 ·exfalso;have:∀c∈cs,0≤ -(gT (∀s∈c,oy D t s)*tw c):=fun c f=>by
   by_cases e:∀s∈c,oy D t s
   ·have:¬gx c:=fun a=>he ⟨c,f,a,e⟩;unfold gx at this;rw[cH e];omega
   ·rw[eo e];omega
  have:=(rR this).1;rw[js]at this;omega
theorem bJ.face_one(h:bJ D φ cs)(i:pH D φ lab){c e:List Dart}(g:c∈cs)(a:e∈cs)(l:gx c)(k:gx e){s f:Dart}(hs:s∈c)(b:f∈e)(he:oy D s f):c=e:=by
 have d:=(h.orb c g).sub s hs;have o:=(h.orb e a).sub f b;have j:=he c ((h.orb c g).chn h.rot);have m:=he e ((h.orb e a).chn h.rot);rw[h.outer_one i g l hs]at j;rw[h.outer_one i a k b]at m;by_cases n:lab s=lab f
 ·rw[(h.outer_F i g l hs).2 f o n.symm]at j;by_cases hm:f∈c
  ·exact h.same g a hm b
  ·rw[show ind c f=0 from if_neg hm]at j;omega
 ·exact absurd ⟨j.symm,m⟩ (h.nest i g a hs b n)
theorem bJ.around(h:bJ D φ cs)(i:pH D φ lab){R:List Dart}(H:R∈cs)(K:¬gx R){t:Dart}(I:t∈R):
  (Es D t∧∀c∈cs,gx c→F c t=0)∨
  ∃c∈cs,gx c∧(∀s∈c,lab s≠lab t)∧F c t=1∧(∀s∈c,oy D t s)∧∀b∈cs,gx b→b≠c→F b t=1→tw c<tw b:=by
 have z:=(h.orb R H).sub t I;by_cases hb:Es D t
 ·exact .inl ⟨hb,fun c d _=>hb c ((h.orb c d).chn h.rot)⟩
 obtain⟨c,d,p,l,_⟩:=h.face z hb;obtain⟨s,hs⟩:=(h.orb c d).pick;have A:=(h.orb c d).sub s hs;have m:F c t=1:=by rw[l s hs c ((h.orb c d).chn h.rot)];exact h.outer_one i d p hs
 have k:∀s∈c,lab s≠lab t:=fun s hs e=>by
  rw[(h.outer_F i d p hs).2 t z e.symm]at m;by_cases hm:t∈c
  ·rw[h.same d H hm I]at p;exact K p
  ·rw[show ind c t=0 from if_neg hm]at m;omega
 refine .inr ⟨c,d,p,k,m,l,fun b a q G L=>?_⟩;obtain⟨o,f⟩:=(h.orb b a).pick;have n:=(h.orb b a).sub o f;have E:F b s=1:=by rw[←l s hs b ((h.orb b a).chn h.rot)];exact L
 have r:lab o≠lab s:=fun e=>by
  rw[(h.outer_F i a q f).2 s A e.symm]at E;by_cases hm:s∈b
  ·exact G (h.same a d hm hs)
  ·rw[show ind b s=0 from if_neg hm]at E;omega
 have J:F c o=0:=by
  rcases(h.outer_F i d p hs).1 o n with e|e
  ·exact e
  ·exact absurd ⟨E,e⟩ (h.nest i a d f hs r)
 have a1:∀u∈D,lab u=lab s→F b u=1:=fun u hu k=>by rw[h.other i a f hu A k (fun e=>r (e.symm.trans k))];exact E
 have a2:∀u∈D,lab u=lab o→F c u=0:=fun u hu k=>by rw[h.other i d hs hu n k (fun e=>r (k.symm.trans e))];exact J
 have b1:=(h.outer_F i d p hs).1;have b2:=(h.outer_F i a q f).1;have w:=(h.orb c d).chn h.rot;have j:=(h.orb b a).chn h.rot;have B:ko D (c++b.map bk):=⟨fun u hu=>(List.mem_append.1 hu).elim (w.1 u) fun hu=>by
  obtain⟨v,hv,rfl⟩:=List.mem_map.1 hu;exact h.gr.back v (j.1 v hv),w.2.app j.2.back⟩
 have e:∀u,F (c++b.map bk) u=F c u-F b u:=fun u=>by rw[Hw,qj];omega
 have key:=nt h.gr B (fun x=>x≤0) (Int.le_refl _) fun u hu=>by
  have two:∀u∈D,lab u=lab s∨lab u=lab o→F (c++b.map bk) u≤0:=fun u hu k=>by
   rw[e];rcases k with k|k
   ·rw[a1 u hu k];rcases b1 u hu with g|g<;>rw[g]<;>omega
   ·rw[a2 u hu k];rcases b2 u hu with g|g<;>rw[g]<;>omega
  have y:=B.1 u hu;have C:lab u=lab s∨lab u=lab o:=by
   rcases List.mem_append.1 hu with hu|hu
   ·exact .inl ((h.orb c d).lab i hu hs)
   ·obtain⟨v,hv,rfl⟩:=List.mem_map.1 hu;exact .inr ((i.bk v (j.1 v hv)).trans ((h.orb b a).lab i hv f))
  exact⟨two u y C,two _ (h.gr.back u y) (by rw[i.bk u y];exact C)⟩
 refine h.less w j (fun u hu=>?_) ⟨o,n,?_⟩
 ·have:=key u hu;rw[e]at this;omega
 ·rw[J,h.outer_one i a q f];omega
theorem bJ.covered(h:bJ D φ cs){L:List Dart}(j:ko D L)(w:List Dart→Int)(hw:∀c∈cs,∀s∈c,w c=F L s):sl (fun c=>w c*tw c) cs=tw L:=by
 have m:sl (fun c=>w c*tw c) cs=sl (fun s=>F L s*(s.1.x*s.2.y-s.2.x*s.1.y)) D:=by
  rw[←jd h.all,show cs.flatten=cs.flatMap id from by rw[List.flatMap_id],Az];refine aR fun c k=>?_;show _=sl _ c;unfold tw;rw[←iA];exact aR fun s hs=>by rw[hw c k s hs]
 have hb:(D.map bk).Perm D:=o8 (nu h.nd fun s _ t _ e=>by rw[←kK s,e];rfl) (fun a ha=>by
  obtain⟨b,hb,rfl⟩:=List.mem_map.1 ha;exact h.gr.back b hb) (by rw[List.length_map];omega)
 have i:sl (fun s=>F L s*(s.1.x*s.2.y-s.2.x*s.1.y)) D= -sl (fun s=>F L (bk s)*(s.1.x*s.2.y-s.2.x*s.1.y)) D:=by
  rw[←jd hb,dq,←js];exact aR fun s _=>by unfold bk;simp only;grind
 have n:sl (fun s=>F L s*(s.1.x*s.2.y-s.2.x*s.1.y)) D-sl (fun s=>F L (bk s)*(s.1.x*s.2.y-s.2.x*s.1.y)) D=sl (fun s=>zz L s*(s.1.x*s.2.y-s.2.x*s.1.y)) D:=by
  rw[←jr];exact aR fun s hs=>by rw[←tI (L:=L) (h.gr.ne s hs)];grind
 have o:sl (fun s=>zz L s*(s.1.x*s.2.y-s.2.x*s.1.y)) D=2*tw L:=by
  have:sl (fun s=>zz L s*(s.1.x*s.2.y-s.2.x*s.1.y)) D=sl (fun s=>sl (fun t=>((if t=s then 1 else 0)-(if t=bk s then 1 else 0))*(s.1.x*s.2.y-s.2.x*s.1.y)) L) D:=aR fun s _=>by
   unfold zz;rw[Int.mul_comm,←iA];exact aR fun t _=>Int.mul_comm _ _
  rw[this,Aw];unfold tw;rw[←iA];refine aR fun t l=>?_;have d:=j.1 t l;have pick:∀(f:Dart→Int)(u:Dart),u∈D→sl (fun s=>(if u=s then 1 else 0)*f s) D=f u:=fun f u hu=>by
   have:=ow h.nd u;rw[show ind D u=1 from if_pos hu]at this;rw[aR (g:=fun s=>f u*(if s=u then 1 else 0)) fun s _=>by
    by_cases e:u=s
    ·rw[if_pos e,if_pos e.symm,e];omega
    ·rw[if_neg e,if_neg fun i=>e i.symm];omega,iA,this]
   omega
  rw[aR (g:=fun s=>(if t=s then 1 else 0)*(s.1.x*s.2.y-s.2.x*s.1.y)-(if bk t=s then 1 else 0)*(s.1.x*s.2.y-s.2.x*s.1.y)) fun s _=>by
   have:t=bk s↔bk t=s:=⟨fun e=>by rw[e];rfl,fun e=>by rw[←e];rfl⟩;simp only[this];rw[Int.sub_mul],jr,pick _ t d,pick _ (bk t) (h.gr.back t d)]
  unfold bk;simp only;grind
 omega
end
