/-
  The plain laws of layer 14 (face).
-/
import Derived.Test.YtfkgjbdeicggaaaGreatZF
namespace Go.Proofs.Pf
open Go.Proofs.Pg Go.Proofs.Pri
section path
variable {α:Type}
def fe(T:List (α×α))(v w:α):Prop:=∃P:List (α×α),(∀s∈P,s∈T∨(s.2,s.1)∈T)∧∀u:α→Int,sl (fun s=>u s.2-u s.1) P=u w-u v
theorem fe.refl(T:List (α×α))(v:α):fe T v v:=⟨[],fun _ h=>(by cases h),fun u=>(by rw[Int.sub_self];rfl)⟩
theorem fe.symm{T:List (α×α)}{v w:α}(h:fe T v w):fe T w v:=by
 obtain⟨P,b,c⟩:=h;refine⟨P.map fun s=>(s.2,s.1),fun s hs=>?_,fun u=>?_⟩
 ·obtain⟨t,d,rfl⟩:=List.mem_map.1 hs;exact(b t d).symm
 ·rw[dq,show(fun a:α×α=>u (a.2,a.1).2-u (a.2,a.1).1)=fun a=> -(u a.2-u a.1)from by funext a;simp only;omega,js,c u];omega
theorem fe.trans{T:List (α×α)}{v w x:α}(h:fe T v w)(a:fe T w x):fe T v x:=by
 obtain⟨P,b,c⟩:=h;obtain⟨Q,d,e⟩:=a;exact⟨P++Q,fun s hs=>(List.mem_append.1 hs).elim (b s) (d s),fun u=>by rw[fi,c,e];omega⟩
theorem fe.mono{T U:List (α×α)}(hs:∀s∈T,s∈U){v w:α}(h:fe T v w):fe U v w:=by
 obtain⟨P,a,b⟩:=h;exact⟨P,fun s hp=>(a s hp).imp (hs _) (hs _),b⟩
theorem fe.one{T:List (α×α)}{s:α×α}(h:s∈T):fe T s.1 s.2:=⟨[s],fun t a=>by rw[List.mem_singleton.1 a];exact .inl h,fun u=>by rw[aV];show _+0=_;omega⟩
theorem fe.keep{T:List (α×α)}{v w:α}(h:fe T v w){κ:Type}(f:α→κ)(a:∀s∈T,f s.1=f s.2):f v=f w:=by
 obtain⟨P,b,c⟩:=h;have:=c fun x=>gT (f x=f v);rw[jc fun s hs=>by
  have:f s.1=f s.2:=(b s hs).elim (a s) fun h=>(a _ h).symm;rw[this,Int.sub_self],cH (P:=f v=f v) rfl]at this
 by_cases e:f w=f v
 ·exact e.symm
 ·rw[eo e]at this;omega
end path
section uf
variable {α:Type} [DecidableEq α]
def vu(V:List α)(g:α→α):List α:=V.filter fun v=>g v=v
structure Uf(V:List α)(T:List (α×α))(g:α→α):Prop where
 mem:∀v∈V,g v∈V∧g (g v)=g v
 conn:∀v w,g v=g w→fe T v w
 all:∀s∈T,g s.1=g s.2
 count:(vu V g).length+T.length=V.length
 forest:∀(w:α×α→Int),(∀u:α→Int,sl (fun s=>w s*(u s.2-u s.1)) T=0)→∀t∈T,w t=0
theorem Uf.start(V:List α):Uf V [] id:=by
 refine⟨fun v hv=>⟨hv,rfl⟩,fun v w h=>?_,fun s hs=>(by cases hs),?_,fun _ _ t b=>(by cases b)⟩
 ·have:v=w:=h;rw[this];exact fe.refl _ _
 ·unfold vu;rw[List.filter_eq_self.2 (fun a _=>by simp)];rfl
theorem vv{V:List α}(c:V.Nodup)(p:α→Bool){x:α}(hx:x∈V)(hp:p x=true):(V.filter fun v=>p v&&decide (v≠x)).length+1=(V.filter p).length:=by
 induction V with
 |nil=>cases hx
 |cons a V d=>
  obtain⟨f,g⟩:=List.nodup_cons.1 c;by_cases e:a=x
  ·subst e;rw[List.filter_cons_of_neg (by simp),List.filter_cons_of_pos hp,List.length_cons];congr 2;refine List.filter_congr fun v hv=>?_;have:v≠a:=fun e=>f (e▸hv);simp[this]
  ·have b:x∈V:=(List.mem_cons.1 hx).resolve_left fun h=>e h.symm;have:=d g b;by_cases q:p a=true
   ·rw[List.filter_cons_of_pos (by simp[q,e]),List.filter_cons_of_pos q,List.length_cons,List.length_cons];omega
   ·rw[List.filter_cons_of_neg (by simp[q]),List.filter_cons_of_neg q];exact this
theorem Uf.join{V:List α}{T:List (α×α)}{g:α→α}(l:V.Nodup)(h:Uf V T g){s:α×α}(n:s.1∈V)(o:s.2∈V)(j:g s.1≠g s.2):Uf V (T++[s]) (fun v=>if g v=g s.1 then g s.2 else g v):=by
 obtain⟨m1,i1⟩:=h.mem s.1 n;obtain⟨m2,i2⟩:=h.mem s.2 o;have sub:∀t∈T,t∈T++[s]:=fun t a=>List.mem_append_left _ a;have cs:fe (T++[s]) s.1 s.2:=fe.one (List.mem_append_right _ (List.mem_singleton.2 rfl));refine⟨fun v hv=>?_,fun v w e=>?_,fun t a=>?_,?_,fun w hw t a=>?_⟩
 ·obtain⟨m,i⟩:=h.mem v hv;by_cases e:g v=g s.1
  ·rw[if_pos e,i2,if_neg (fun e=>j e.symm)];exact⟨m2,rfl⟩
  ·rw[if_neg e,i,if_neg e];exact⟨m,rfl⟩
 ·have c:=fun {v w:α}(e:g v=g w)=>(h.conn v w e).mono sub;by_cases b:g v=g s.1
  ·by_cases f:g w=g s.1
   ·exact c (b.trans f.symm)
   ·simp only[if_pos b,if_neg f]at e;exact(c b).trans (cs.trans (c e))
  ·by_cases f:g w=g s.1
   ·simp only[if_neg b,if_pos f]at e;exact(c e).trans (cs.symm.trans (c f.symm))
   ·simp only[if_neg b,if_neg f]at e;exact c e
 ·rcases List.mem_append.1 a with a|a
  ·simp only[h.all t a]
  ·rw[List.mem_singleton.1 a];simp only[if_true,if_neg j.symm]
 ·have e:vu V (fun v=>if g v=g s.1 then g s.2 else g v)=V.filter fun v=>decide (g v=v)&&decide (v≠g s.1):=by
   refine List.filter_congr fun v hv=>?_;by_cases b:g v=g s.1
   ·simp only[b,if_true];by_cases f:g s.2=v
    ·rw[←f,i2]at b;exact absurd b.symm j
    ·by_cases k:v=g s.1
     ·simp[f,k.symm]
     ·have:¬g s.1=v:=fun e=>k e.symm;simp[f,this]
   ·simp only[b,if_false];by_cases k:v=g s.1
    ·rw[k,i1]at b;exact absurd rfl b
    ·simp[k]
  have d:=vv l (fun v=>decide (g v=v)) m1 (by simp[i1]);have c:=h.count;rw[e,List.length_append,List.length_singleton];unfold vu at c;omega
 ·have hs:w s=0:=by
   (have:=hw fun v=>if g v=g s.1 then 1 else 0);rw[fi,jc fun t a=>by rw[h.all t a,Int.sub_self,Int.mul_zero],aV]at this;simp only[if_neg j.symm,if_true,sl]at this;omega
  rcases List.mem_append.1 a with a|a
  ·refine h.forest w (fun u=>?_) t a;have:=hw u;rw[fi,aV,hs,Int.zero_mul]at this;simp only[sl]at this;omega
  ·rw[List.mem_singleton.1 a];exact hs
theorem Uf.list{V:List α}(i:V.Nodup):∀(l:List (α×α)){T:List (α×α)}{g:α→α},Uf V T g→(∀s∈l,s.1∈V∧s.2∈V)→∃b N a,Uf V (T++b) a∧l.Perm (b++N)∧(∀s∈N,a s.1=a s.2)∧∀v w,g v=g w→a v=a w
 | [],T,g,h,_=>⟨[],[],g,(by rw[List.append_nil];exact h),.refl _,fun _ h=>(by cases h),fun _ _ h=>h⟩
 |s::l,T,g,h,hs=>by
  obtain⟨j,k⟩:=hs s (List.mem_cons_self ..);have c:=fun t d=>hs t (List.mem_cons_of_mem _ d);by_cases e:g s.1=g s.2
  ·obtain⟨b,N,a,k1,k2,k3,f⟩:=Uf.list i l h c;refine⟨b,s::N,a,k1,(List.Perm.cons s k2).trans List.perm_middle.symm,fun t d=>?_,f⟩;rcases List.mem_cons.1 d with rfl|d
   ·exact f _ _ e
   ·exact k3 t d
  ·obtain⟨b,N,a,k1,k2,k3,f⟩:=Uf.list i l (h.join i j k e) c;refine⟨s::b,N,a,by rw[List.append_assoc]at k1;exact k1,List.Perm.cons s k2,k3,fun v w m=>f v w ?_⟩;simp only[m]
theorem Uf.joins{V:List α}(d:V.Nodup):∀(l:List (α×α)){T:List (α×α)}{g:α→α},Uf V T g→(∀s∈l,s.1∈V∧s.2∈V)→(∀a s b,l=a++s::b→¬fe (T++a) s.1 s.2)→∃c,Uf V (T++l) c
 | [],T,g,h,_,_=>⟨g,by rw[List.append_nil];exact h⟩
 |s::l,T,g,h,hs,f=>by
  obtain⟨i,j⟩:=hs s (List.mem_cons_self ..);have e:g s.1≠g s.2:=fun e=>f [] s l rfl (by rw[List.append_nil];exact h.conn _ _ e);obtain⟨c,k⟩:=Uf.joins d l (h.join d i j e) (fun t m=>hs t (List.mem_cons_of_mem _ m)) (fun a t b n=>by
   have:=f (s::a) t b (by rw[n];rfl);rw[List.append_assoc];exact this)
  rw[List.append_assoc]at k;exact⟨c,k⟩
end uf
theorem jR{κ:Type}:∀ {l m:List κ},l.Nodup→(∀a∈l,a∈m)→l.length≤m.length
 | [],_,_,_=>Nat.zero_le _
 |a::l,m,d,hs=>by
  obtain⟨f,h⟩:=List.nodup_cons.1 d;obtain⟨p,q,e⟩:=List.append_of_mem (hs a (List.mem_cons_self ..));have:=jR (l:=l) (m:=p++q) h fun b hb=>by
   have c:=hs b (List.mem_cons_of_mem _ hb);rw[e]at c;rcases List.mem_append.1 c with g|g
   ·exact List.mem_append_left _ g
   ·rcases List.mem_cons.1 g with g|g
    ·exact absurd (g▸hb) f
    ·exact List.mem_append_right _ g
  rw[e,List.length_append,List.length_cons];rw[List.length_append]at this;rw[List.length_cons];omega
theorem Ev{γ:Type}(l:List γ)(p:γ→Bool):(l.filter p).length+(l.filter fun x=> !p x).length=l.length:=by
 induction l with
 |nil=>rfl
 |cons a l b=>
  by_cases e:p a=true
  ·rw[List.filter_cons_of_pos e,List.filter_cons_of_neg (by simp[e]),List.length_cons,List.length_cons];omega
  ·rw[List.filter_cons_of_neg e,List.filter_cons_of_pos (by simpa using e),List.length_cons,List.length_cons];omega
theorem gN{κ γ:Type}{f:γ→κ}{l:List γ}(h:l.Nodup)(hi:∀s∈l,∀t∈l,f s=f t→s=t):(l.map f).Nodup:=by
 induction l with
 |nil=>exact List.nodup_nil
 |cons a l c=>
  obtain⟨d,e⟩:=List.nodup_cons.1 h;rw[List.map_cons,List.nodup_cons];refine⟨fun hm=>?_,c e fun s hs t g=>hi s (List.mem_cons_of_mem _ hs) t (List.mem_cons_of_mem _ g)⟩;obtain⟨b,hb,he⟩:=List.mem_map.1 hm;exact d (hi b (List.mem_cons_of_mem _ hb) a (List.mem_cons_self ..) he▸hb)
section
variable {κ:Type} {D:List Dart} {φ:Dart→Dart} {cs:List (List Dart)} {lab:Dart→κ}
def bf(cs:List (List Dart))(s:Dart):List Dart:=(cs.find? fun c=>decide (s∈c)).getD []
theorem bJ.orbit(h:bJ D φ cs){s:Dart}(hs:s∈D):bf cs s∈cs∧s∈bf cs s:=by
 obtain⟨c,b,a⟩:=h.in_orb hs;unfold bf;cases e:cs.find? fun c=>decide (s∈c)with
 |none=>
  have:=List.find?_eq_none.1 e c b;simp[a]at this
 |some d=>
  have f:=List.mem_of_find?_eq_some e;have g:=List.find?_some e;exact⟨f,by simpa using g⟩
theorem bJ.cs_nd(h:bJ D φ cs):cs.Nodup:=by
 have key:∀l:List (List Dart),l.flatten.Nodup→(∀c∈l,c≠[])→l.Nodup:=by
  intro l;induction l with
  |nil=>exact fun _ _=>List.nodup_nil
  |cons a l f=>
   intro b e;rw[List.flatten_cons,List.nodup_append]at b;rw[List.nodup_cons];refine⟨fun hm=>?_,f b.2.1 fun c d=>e c (List.mem_cons_of_mem _ d)⟩;obtain⟨s,hs⟩:=List.exists_mem_of_ne_nil a (e a (List.mem_cons_self ..));exact b.2.2 s hs s (List.mem_flatten.2 ⟨a,hm,hs⟩) rfl
 exact key cs h.fnd fun c d=>(h.orb c d).ne
theorem bJ.euler(h:bJ D φ cs)(Q:pH D φ lab){E:List Dart}(hE:D.Perm (E++E.map bk)){V:List Pt}(hV:V.Nodup)(S:∀v,v∈V↔∃s∈D,s.1=v){K:List κ}(hK:K.Nodup)(a':∀k,k∈K↔∃s∈D,lab s=k)
  (ho:∀s∈D,∀t∈D,s.1=t.1→lab s=lab t){os:List (List Dart)}(b6:os.Nodup)(U:∀c,c∈os↔c∈cs∧gx c):os.length+V.length=E.length+K.length:=by
 have W:∀s∈E,s∈D:=fun s hs=>hE.mem_iff.2 (List.mem_append_left _ hs);obtain⟨T,N,g,k1,k2,k3,_⟩:=Uf.list hV E (Uf.start V) (fun s hs=>⟨(S _).2 ⟨s,W s hs,rfl⟩,(S _).2 ⟨bk s,h.gr.back s (W s hs),rfl⟩⟩);rw[List.nil_append]at k1;have hT:∀s∈T,s∈D:=fun s hs=>W s (k2.mem_iff.2 (List.mem_append_left _ hs));have hN:∀s∈N,s∈D:=fun s hs=>W s (k2.mem_iff.2 (List.mem_append_right _ hs));have be:(E++E.map bk).Nodup:=hE.nodup_iff.1 h.nd;have bq:(T++N).Nodup:=k2.nodup_iff.1 (List.nodup_append.1 be).1
 have X:∀s∈E,∀t∈E,s≠bk t:=fun s hs t q e=>(List.nodup_append.1 be).2.2 s hs (bk t) (List.mem_map.2 ⟨t,q,rfl⟩) e;have bs:∀s∈T,s∈E:=fun s hs=>k2.mem_iff.2 (List.mem_append_left _ hs);have C:∀s∈N,s∈E:=fun s hs=>k2.mem_iff.2 (List.mem_append_right _ hs);have bX:∀s∈D,∀t∈D,g s.1=g t.1↔lab s=lab t:=fun s hs t q=>by
  constructor
  ·intro e;have c:=k1.conn _ _ e;have key:∀v w:Pt,fe T v w→∀s∈D,∀t∈D,s.1=v→t.1=w→lab s=lab t:=by
    intro v w r s hs t q e1 G;have:=r.keep (f:=fun p=>gT (∃u∈D,u.1=p∧lab u=lab s)) fun u hu=>by
     have J:=hT u hu;have l1:lab (bk u)=lab u:=Q.bk u J;by_cases o:lab u=lab s
     ·rw[cH ⟨u,J,rfl,o⟩,cH ⟨bk u,h.gr.back u J,rfl,l1.trans o⟩]
     ·rw[eo,eo]
      ·rintro⟨x,hx,x1,B⟩;exact o (l1.symm.trans ((ho _ (h.gr.back u J) x hx x1.symm).trans B))
      ·rintro⟨x,hx,x1,B⟩;exact o ((ho u J x hx x1.symm).trans B)
    rw[cH ⟨s,hs,e1,rfl⟩]at this;by_cases o:∃u∈D,u.1=w∧lab u=lab s
    ·obtain⟨u,hu,u1,u2⟩:=o;exact u2.symm.trans (ho u hu t q (u1.trans G.symm))
    ·rw[eo o]at this;omega
   exact key _ _ c s hs t q rfl rfl
  ·intro e;have:=Q.one (fun u=>gT (g u.1=g s.1)) (fun u hu=>by
    have:g u.1=g u.2:=by
     have z:∀x∈E,g x.1=g x.2:=fun x hx=>by
      rcases List.mem_append.1 (k2.mem_iff.1 hx)with hx|hx
      ·exact k1.all x hx
      ·exact k3 x hx
     rcases List.mem_append.1 (hE.mem_iff.1 hu)with hu|hu
     ·exact z u hu
     ·obtain⟨x,hx,rfl⟩:=List.mem_map.1 hu;exact(z x hx).symm
    show gT (g u.2=g s.1)=gT (g u.1=g s.1);rw[this]) (fun u hu=>by
    have:g u.1=g u.2:=by
     have z:∀x∈E,g x.1=g x.2:=fun x hx=>by
      rcases List.mem_append.1 (k2.mem_iff.1 hx)with hx|hx
      ·exact k1.all x hx
      ·exact k3 x hx
     rcases List.mem_append.1 (hE.mem_iff.1 hu)with hu|hu
     ·exact z u hu
     ·obtain⟨x,hx,rfl⟩:=List.mem_map.1 hu;exact(z x hx).symm
    show gT (g (φ u).1=g s.1)=gT (g u.1=g s.1);rw[h.rot.head u hu,this]) s hs t q e
   have G:gT (g s.1=g s.1)=gT (g t.1=g s.1):=this;rw[cH (P:=g s.1=g s.1) rfl]at G;by_cases o:g t.1=g s.1
   ·exact o.symm
   ·rw[eo o]at G;omega
 have b7:∀v∈V,∃s∈D,s.1=v:=fun v hv=>(S v).1 hv;have count:∀ {γ:Type}(R:List γ)(H:γ→Dart),R.Nodup→(∀x∈R,H x∈D)→(∀x∈R,∀y∈R,lab (H x)=lab (H y)→x=y)→(∀s∈D,∃x∈R,lab (H x)=lab s)→R.length=K.length:=by
  intro γ R H h1 h2 h3 h4;have n1:=gN (f:=fun x=>lab (H x)) h1 h3;have l1:=jR n1 (m:=K) fun a ha=>by
   obtain⟨x,hx,rfl⟩:=List.mem_map.1 ha;exact(a' _).2 ⟨H x,h2 x hx,rfl⟩
  have l2:=jR hK (m:=R.map fun x=>lab (H x)) fun a ha=>by
   obtain⟨s,hs,rfl⟩:=(a' a).1 ha;obtain⟨x,hx,e⟩:=h4 s hs;exact List.mem_map.2 ⟨x,hx,e⟩
  rw[List.length_map]at l1 l2;omega
 have c1:(vu V g).length=K.length:=by
  let H:Pt→Dart:=fun v=>if hx:∃s∈D,s.1=v then Classical.choose hx else (v,v)
  have Y:∀v∈V,H v∈D∧(H v).1=v:=fun v hv=>by
   have hx:=b7 v hv;have:=Classical.choose_spec hx;simp only[H,dif_pos hx];exact this
  refine count (vu V g) H (hV.filter _) (fun x hx=>(Y x ((List.mem_filter.1 hx).1)).1) (fun x hx y hy e=>?_) (fun s hs=>?_)
  ·obtain⟨x1,B⟩:=List.mem_filter.1 hx;obtain⟨y1,y2⟩:=List.mem_filter.1 hy;obtain⟨a1,a2⟩:=Y x x1;obtain⟨b1,b2⟩:=Y y y1;have:=(bX _ a1 _ b1).2 e;rw[a2,b2]at this;simp only[decide_eq_true_eq]at B y2;rw[←B,this,y2]
  ·have hv:=(S s.1).2 ⟨s,hs,rfl⟩;obtain⟨m,i⟩:=k1.mem s.1 hv;obtain⟨a1,a2⟩:=Y _ m;exact⟨g s.1,List.mem_filter.2 ⟨m,by simp[i]⟩,(bX _ a1 s hs).1 (by rw[a2,i])⟩
 have Z:=h.cs_nd;have lf:∀ {f:Dart→Int},(∀s∈D,f (φ s)=f s)→∀s∈D,∀t∈D,bf cs s=bf cs t→f s=f t:=fun {f} hf s hs t q e=>by
  obtain⟨M,O⟩:=h.orbit hs;obtain⟨_,o4⟩:=h.orbit q;exact(h.orb _ M).one f hf s O t (e▸o4)
 have a6:∀a (s:List Dart×List Dart) b,N.map (fun s=>(bf cs s,bf cs (bk s)))=a++s::b→¬fe ([]++a) s.1 s.2:=by
  intro a s b e r;rw[List.nil_append]at r;obtain⟨l1,l2,e1,G,o⟩:=List.map_eq_append_iff.1 e;obtain⟨n,l3,e4,e5,e6⟩:=List.map_eq_cons_iff.1 o;subst e4;have hn:n∈N:=by rw[e1];simp
  have ad:=hN n hn;obtain⟨P,p1,p2⟩:=k1.conn n.2 n.1 (k3 n hn).symm;have hL:ko D (n::P):=by
   refine⟨fun t q=>?_,fun u=>by rw[aV,p2 u];omega⟩;rcases List.mem_cons.1 q with rfl|q
   ·exact ad
   ·rcases p1 t q with g|g
    ·exact hT t g
    ·exact h.gr.back _ (hT _ g)
  have hz:∀m∈N,m∉P∧bk m∉P:=fun m hm=>by
   have nT:m∉T:=fun e=>(List.nodup_append.1 bq).2.2 m e m hm rfl;constructor
   ·intro e;rcases p1 m e with g|g
    ·exact nT g
    ·exact X _ (bs _ g) m (C m hm) rfl
   ·intro e;rcases p1 _ e with g|g
    ·exact X _ (bs _ g) m (C m hm) rfl
    ·exact nT g
  have zn:zz (n::P) n=1:=by
   have h0:=ox (hz n hn).1 (hz n hn).2;unfold zz at*;rw[aV,h0,if_pos rfl,if_neg (X n (C n hn) n (C n hn))];rfl
  have zo:∀m∈l1,zz (n::P) m=0:=fun m hm=>by
   (have a7:m∈N:=by rw[e1];simp[hm]);have h0:=ox (hz m a7).1 (hz m a7).2;have b8:n≠m:=fun e=>by
    have:=(List.nodup_append.1 bq).2.1;rw[e1,List.nodup_append]at this;exact this.2.2 m hm n (List.mem_cons_self ..) e.symm
   unfold zz at*;rw[aV,h0,if_neg b8,if_neg (X n (C n hn) m (C m a7))];rfl
  have av:∀s∈D,F (n::P) (φ s)=F (n::P) s:=fun s hs=>rX h.gr h.rot hL hs;have:=r.keep (f:=fun c=>if hx:∃s∈D,bf cs s=c then F (n::P) (Classical.choose hx)else 0) fun t q=>by
   rw[←G]at q;obtain⟨m,hm,rfl⟩:=List.mem_map.1 q;have A:m∈D:=hN m (by rw[e1];simp[hm]);have val:∀s∈D,(if hx:∃t∈D,bf cs t=bf cs s then F (n::P) (Classical.choose hx)else 0)=F (n::P) s:=fun s hs=>by
    have hx:∃t∈D,bf cs t=bf cs s:=⟨s,hs,rfl⟩;rw[dif_pos hx];have hp:=Classical.choose_spec hx;exact lf av _ hp.1 s hs hp.2
   simp only;rw[val m A,val _ (h.gr.back m A)];have a:=tI (L:=n::P) (h.gr.ne m A);rw[zo m hm]at a;omega
  have val:∀s∈D,(if hx:∃t∈D,bf cs t=bf cs s then F (n::P) (Classical.choose hx)else 0)=F (n::P) s:=fun s hs=>by
   have hx:∃t∈D,bf cs t=bf cs s:=⟨s,hs,rfl⟩;rw[dif_pos hx];have hp:=Classical.choose_spec hx;exact lf av _ hp.1 s hs hp.2
  rw[←e5]at this;simp only at this;rw[val n ad,val _ (h.gr.back n ad)]at this;have a:=tI (L:=n::P) (h.gr.ne n ad);rw[zn]at a;omega
 obtain⟨d,kd⟩:=Uf.joins Z (N.map fun s=>(bf cs s,bf cs (bk s))) (Uf.start cs) (fun s hs=>by
  obtain⟨m,hm,rfl⟩:=List.mem_map.1 hs;exact⟨(h.orbit (hN m hm)).1,(h.orbit (h.gr.back m (hN m hm))).1⟩) a6
 rw[List.nil_append]at kd;have b3:∀s∈D,∀t∈D,d (bf cs s)=d (bf cs t)↔lab s=lab t:=fun s hs t q=>by
  constructor
  ·intro e;have c:=kd.conn _ _ e;have:=c.keep (f:=fun c=>gT (∃u∈c,lab u=lab s)) fun x hx=>by
    obtain⟨m,hm,rfl⟩:=List.mem_map.1 hx;have A:=hN m hm;obtain⟨M,O⟩:=h.orbit A;obtain⟨o3,o4⟩:=h.orbit (h.gr.back m A);simp only;by_cases o:lab m=lab s
    ·rw[cH ⟨m,O,o⟩,cH ⟨bk m,o4,(Q.bk m A).trans o⟩]
    ·rw[eo,eo]
     ·rintro⟨x,hx,B⟩;exact o ((Q.bk m A).symm.trans (((h.orb _ o3).lab Q o4 hx).trans B))
     ·rintro⟨x,hx,B⟩;exact o (((h.orb _ M).lab Q O hx).trans B)
   obtain⟨M,O⟩:=h.orbit hs;obtain⟨o3,o4⟩:=h.orbit q;rw[cH ⟨s,O,rfl⟩]at this;by_cases o:∃u∈bf cs t,lab u=lab s
   ·obtain⟨u,hu,u2⟩:=o;exact u2.symm.trans ((h.orb _ o3).lab Q hu o4)
   ·rw[eo o]at this;omega
  ·intro e;have b9:∀u∈D,bf cs (φ u)=bf cs u:=fun u hu=>by
    obtain⟨M,O⟩:=h.orbit hu;obtain⟨o3,o4⟩:=h.orbit (h.rot.mem u hu);exact h.same o3 M o4 (((h.orb _ M).phi h.rot hu).2 O)
   (have az:∀u∈D,gT (d (bf cs (φ u))=d (bf cs s))=gT (d (bf cs u)=d (bf cs s)):=fun u hu=>by rw[b9 u hu]);have b4:=k1.forest (fun u=>gT (d (bf cs u)=d (bf cs s))-gT (d (bf cs (bk u))=d (bf cs s))) (fun u=>by
    have p1:sl (fun x=>gT (d (bf cs x)=d (bf cs s))*(u x.2-u x.1)) D=0:=by
     have hp:=h.rot.perm (fun s hs=>hs) h.nd fun s hs=>h.rot.mem s hs;rw[aR (g:=fun x=>gT (d (bf cs (φ x))=d (bf cs s))*u (φ x).1-gT (d (bf cs x)=d (bf cs s))*u x.1) fun x hx=>by rw[az x hx,h.rot.head x hx,Int.mul_sub],jr,←jd hp (f:=fun x=>gT (d (bf cs x)=d (bf cs s))*u x.1),dq];omega
    rw[jd hE,fi,dq,←mA,jd k2,fi]at p1;rw[jc (l:=N) fun x hx=>by
     have:=kd.all _ (List.mem_map.2 ⟨x,hx,rfl⟩);simp only at this;rw[this];unfold bk;simp only;grind,Int.add_zero]at p1
    rw[←p1];exact aR fun x _=>by unfold bk;simp only;grind)
   have hb:∀u∈D,gT (d (bf cs (bk u))=d (bf cs s))=gT (d (bf cs u)=d (bf cs s)):=fun u hu=>by
    have z:∀x∈E,gT (d (bf cs (bk x))=d (bf cs s))=gT (d (bf cs x)=d (bf cs s)):=fun x hx=>by
     rcases List.mem_append.1 (k2.mem_iff.1 hx)with hx|hx
     ·have:=b4 x hx;omega
     ·have:=kd.all _ (List.mem_map.2 ⟨x,hx,rfl⟩);simp only at this;rw[this]
    rcases List.mem_append.1 (hE.mem_iff.1 hu)with hu|hu
    ·exact z u hu
    ·obtain⟨x,hx,rfl⟩:=List.mem_map.1 hu;exact(z x hx).symm
   have:=Q.one (fun u=>gT (d (bf cs u)=d (bf cs s))) hb az s hs t q e;have G:gT (d (bf cs s)=d (bf cs s))=gT (d (bf cs t)=d (bf cs s)):=this;rw[cH (P:=d (bf cs s)=d (bf cs s)) rfl]at G;by_cases o:d (bf cs t)=d (bf cs s)
   ·exact o.symm
   ·rw[eo o]at G;omega
 have j:∀c∈cs,c.headD (⟨0,0⟩,⟨0,0⟩)∈c:=fun c r=>by
  cases c with
  |nil=>exact absurd rfl (h.orb [] r).ne
  |cons a l=>exact List.mem_cons_self ..
 have a8:∀c∈cs,bf cs (c.headD (⟨0,0⟩,⟨0,0⟩))=c:=fun c r=>by
  have hd:=(h.orb c r).sub _ (j c r);obtain⟨M,O⟩:=h.orbit hd;exact h.same M r O (j c r)
 have I:∀c∈cs,c.headD (⟨0,0⟩,⟨0,0⟩)∈D:=fun c r=>(h.orb c r).sub _ (j c r);have c2:(vu cs d).length=K.length:=by
  refine count (vu cs d) (fun c=>c.headD (⟨0,0⟩,⟨0,0⟩)) (Z.filter _) (fun x hx=>I x ((List.mem_filter.1 hx).1)) (fun x hx y hy e=>?_) (fun s hs=>?_)
  ·obtain⟨x1,B⟩:=List.mem_filter.1 hx;obtain⟨y1,y2⟩:=List.mem_filter.1 hy;have:=(b3 _ (I x x1) _ (I y y1)).2 e;rw[a8 x x1,a8 y y1]at this;simp only[decide_eq_true_eq]at B y2;rw[←B,this,y2]
  ·obtain⟨M,O⟩:=h.orbit hs;obtain⟨m,i⟩:=kd.mem _ M;refine⟨d (bf cs s),List.mem_filter.2 ⟨m,by simp[i]⟩,(b3 _ (I _ m) s hs).1 ?_⟩;rw[a8 _ m,i]
 have c3:(cs.filter fun c=>decide (c∉os)).length=K.length:=by
  refine count (cs.filter fun c=>decide (c∉os)) (fun c=>c.headD (⟨0,0⟩,⟨0,0⟩)) (Z.filter _) (fun x hx=>I x ((List.mem_filter.1 hx).1)) (fun x hx y hy e=>?_) (fun s hs=>?_)
  ·obtain⟨x1,B⟩:=List.mem_filter.1 hx;obtain⟨y1,y2⟩:=List.mem_filter.1 hy;simp only[decide_eq_true_eq]at B y2;obtain⟨c,r,_,_,hu⟩:=h.rim Q (I y y1);rw[hu x x1 (fun G=>B ((U x).2 ⟨x1,G⟩)) ⟨_,j x x1,e⟩,hu y y1 (fun G=>y2 ((U y).2 ⟨y1,G⟩)) ⟨_,j y y1,rfl⟩]
  ·obtain⟨c,r,hn,hl,_⟩:=h.rim Q hs;exact⟨c,List.mem_filter.2 ⟨r,by simp only[decide_eq_true_eq];exact fun e=>hn ((U c).1 e).2⟩,hl _ (j c r)⟩
 have c4:os.length+(cs.filter fun c=>decide (c∉os)).length=cs.length:=by
  have q1:(cs.filter fun c=>decide (c∈os)).length=os.length:=by
   (have a:=jR (Z.filter fun c=>decide (c∈os)) (m:=os) fun a ha=>by simpa using(List.mem_filter.1 ha).2);have b:=jR b6 (m:=cs.filter fun c=>decide (c∈os)) fun a ha=>List.mem_filter.2 ⟨((U a).1 ha).1,by simpa using ha⟩;omega
  have q2:=Ev cs fun c=>decide (c∈os);have q3:(cs.filter fun c=> !decide (c∈os))=cs.filter fun c=>decide (c∉os):=List.filter_congr fun c _=>by simp
  rw[q3]at q2;omega
 have t1:=k1.count;have t2:=kd.count;have t3:=k2.length_eq;rw[List.length_map]at t2;rw[List.length_append]at t3;omega
end
def low(v a:Pt):Prop:=a.y<v.y∨(a.y=v.y∧a.x<v.x)
def kq(v a b:Pt):Prop:=(¬low v a∧low v b)∨((low v a↔low v b)∧ae a v b<0)
structure JN(a v b:Pt):Prop where
 a1:a.y=v.y→v.x<a.x→(0<ae a v b↔b.y<v.y)∧(ae a v b<0↔v.y<b.y)
 a2:a.y=v.y→a.x<v.x→(0<ae a v b↔v.y<b.y)∧(ae a v b<0↔b.y<v.y)
 b1:b.y=v.y→v.x<b.x→(0<ae a v b↔v.y<a.y)∧(ae a v b<0↔a.y<v.y)
 b2:b.y=v.y→b.x<v.x→(0<ae a v b↔a.y<v.y)∧(ae a v b<0↔v.y<a.y)
theorem JO(a v b:Pt):JN a v b:=by
 refine⟨fun c f=>?_,fun c f=>?_,fun c f=>?_,fun c f=>?_⟩
 ·have e:ae a v b=(v.y-b.y)*(a.x-v.x):=by unfold ae;rw[c];grind
  have:=kF (d:=a.x-v.x) O9 (v.y-b.y);rw[←e]at this;omega
 ·have e:ae a v b=(b.y-v.y)*(v.x-a.x):=by unfold ae;rw[c];grind
  have:=kF (d:=v.x-a.x) O9 (b.y-v.y);rw[←e]at this;omega
 ·have e:ae a v b=(a.y-v.y)*(b.x-v.x):=by unfold ae;rw[c];grind
  have:=kF (d:=b.x-v.x) O9 (a.y-v.y);rw[←e]at this;omega
 ·have e:ae a v b=(v.y-a.y)*(v.x-b.x):=by unfold ae;rw[c];grind
  have:=kF (d:=v.x-b.x) O9 (v.y-a.y);rw[←e]at this;omega
theorem iC(a v b:Pt):ae b v a= -ae a v b:=by unfold ae;grind
structure GD(v a:Pt)(k:Fin 4):Prop where
 k0:k=0↔a.y<v.y
 k1:k=1↔(a.y=v.y∧a.x<v.x)
 k2:k=2↔(a.y=v.y∧v.x<a.x)
 k3:k=3↔v.y<a.y
theorem ye{v a:Pt}(h:a≠v):∃k,GD v a k:=by
 have:=pt_ne h;rcases Int.lt_trichotomy a.y v.y with g|g|g
 ·exact⟨0,by constructor<;>simp<;>omega⟩
 ·rcases Int.lt_or_gt_of_ne (show a.x≠v.x by omega)with g2|g2
  ·exact⟨1,by constructor<;>simp<;>omega⟩
  ·exact⟨2,by constructor<;>simp<;>omega⟩
 ·exact⟨3,by constructor<;>simp<;>omega⟩
structure GF(x:Int)(k:Fin 3):Prop where
 k0:k=0↔x<0
 k1:k=1↔x=0
 k2:k=2↔0<x
theorem yi(x:Int):∃k,GF x k:=by
 rcases Int.lt_trichotomy x 0 with g|g|g
 ·exact⟨0,by constructor<;>simp<;>omega⟩
 ·exact⟨1,by constructor<;>simp<;>omega⟩
 ·exact⟨2,by constructor<;>simp<;>omega⟩
def vw(k:Fin 4):Bool:=decide (k=0)||decide (k=1)
def Ga(k l:Fin 4)(c:Fin 3):Bool:=(!vw k&&vw l)||(vw k ==vw l&&decide (c=0))
def BQ(k l:Fin 4)(c:Fin 3):Bool:=
 (!decide (k=2)||(decide (c=2) ==decide (l=0)&&decide (c=0) ==decide (l=3)))&&(!decide (k=1)||(decide (c=2) ==decide (l=3)&&decide (c=0) ==decide (l=0)))&&
 (!decide (l=2)||(decide (c=2) ==decide (k=3)&&decide (c=0) ==decide (k=0)))&&(!decide (l=1)||(decide (c=2) ==decide (k=0)&&decide (c=0) ==decide (k=3)))
def I6(k l:Fin 4)(c:Fin 3):Int:=if c=2∧l=0∧k≠3 then 1 else if c=0∧k=3∧l≠0 then-1 else 0
def Jz(l:Fin 4):Int:=if l=3∨l=1 then 1 else 0
theorem JP:∀b kw a:Fin 4,∀c1 c2 c3:Fin 3,(BQ b a c1&&BQ a kw c2&&BQ b kw c3)=true→((Ga kw b (2-c3)&&((Ga a kw c2&&Ga a b (2-c1))||(Ga b a c1&&Ga kw a (2-c2))))||(Ga b kw c3&&Ga b a c1&&Ga a kw c2))=true→I6 b a c1+Jz a+I6 a kw c2=I6 b kw c3:=by decide
theorem Hz{v a:Pt}{k:Fin 4}(h:GD v a k):low v a↔vw k=true:=by
 unfold low vw;rw[←h.k0,←h.k1];simp
theorem JA:∀c:Fin 3,((2-c=0)↔c=2)∧((2-c=1)↔c=1)∧((2-c=2)↔c=0):=by decide
theorem tN{x:Int}{c:Fin 3}(h:GF x c):GF (-x) (2-c):=by
 obtain⟨a,b,d⟩:=h;obtain⟨e,f,g⟩:=JA c;refine⟨?_,?_,?_⟩
 ·rw[e,d];omega
 ·rw[f,b];omega
 ·rw[g,a];omega
theorem tO{v a b:Pt}{k l:Fin 4}{c:Fin 3}(d:GD v a k)(e:GD v b l)(f:GF (ae a v b) c):kq v a b→Ga k l c=true:=by
 unfold kq Ga;rw[Hz d,Hz e,←f.k0];intro h;generalize vw k=x at*;generalize vw l=y at*;cases x<;>cases y<;>simp at h ⊢ <;>exact h
theorem GG:∀(k l:Fin 4)(c:Fin 3),(k=2→(c=2↔l=0)∧(c=0↔l=3))→(k=1→(c=2↔l=3)∧(c=0↔l=0))→(l=2→(c=2↔k=3)∧(c=0↔k=0))→(l=1→(c=2↔k=0)∧(c=0↔k=3))→BQ k l c=true:=by
 intro k l c g1 g2 g3 g4;have a1:(!decide (k=2)||(decide (c=2) ==decide (l=0)&&decide (c=0) ==decide (l=3)))=true:=by
  by_cases e:k=2
  ·obtain⟨x,y⟩:=g1 e;simp[e,x,y]
  ·simp[e]
 have a2:(!decide (k=1)||(decide (c=2) ==decide (l=3)&&decide (c=0) ==decide (l=0)))=true:=by
  by_cases e:k=1
  ·obtain⟨x,y⟩:=g2 e;simp[e,x,y]
  ·simp[e]
 have a3:(!decide (l=2)||(decide (c=2) ==decide (k=3)&&decide (c=0) ==decide (k=0)))=true:=by
  by_cases e:l=2
  ·obtain⟨x,y⟩:=g3 e;simp[e,x,y]
  ·simp[e]
 have a4:(!decide (l=1)||(decide (c=2) ==decide (k=0)&&decide (c=0) ==decide (k=3)))=true:=by
  by_cases e:l=1
  ·obtain⟨x,y⟩:=g4 e;simp[e,x,y]
  ·simp[e]
 unfold BQ;rw[a1,a2,a3,a4];rfl
theorem Ew{v a b:Pt}{k l:Fin 4}{c:Fin 3}(h:GD v a k)(i:GD v b l)(d:GF (ae a v b) c):BQ k l c=true:=by
 obtain⟨f1,f2,f3,f4⟩:=JO a v b;have g1:k=2→(c=2↔l=0)∧(c=0↔l=3):=fun e=>by
  obtain⟨f,g⟩:=h.k2.1 e;rw[d.k2,d.k0,i.k0,i.k3];exact f1 f g
 have g2:k=1→(c=2↔l=3)∧(c=0↔l=0):=fun e=>by
  obtain⟨f,g⟩:=h.k1.1 e;rw[d.k2,d.k0,i.k0,i.k3];exact f2 f g
 have g3:l=2→(c=2↔k=3)∧(c=0↔k=0):=fun e=>by
  obtain⟨f,g⟩:=i.k2.1 e;rw[d.k2,d.k0,h.k0,h.k3];exact f3 f g
 have g4:l=1→(c=2↔k=0)∧(c=0↔k=3):=fun e=>by
  obtain⟨f,g⟩:=i.k1.1 e;rw[d.k2,d.k0,h.k0,h.k3];exact f4 f g
 exact GG k l c g1 g2 g3 g4
theorem Iy{v a b:Pt}{k l:Fin 4}{c:Fin 3}(d:GD v a k)(e:GD v b l)(f:GF (ae a v b) c):jj a v b=I6 k l c:=by
 have g:a.y≤v.y↔k≠3:=by rw[Ne,d.k3];omega
 have h:v.y≤b.y↔l≠0:=by rw[Ne,e.k0];omega
 unfold jj I6;simp only[←f.k2,←f.k0,←e.k0,←d.k3,g,h]
theorem JC{v b:Pt}{l:Fin 4}(a:GD v b l):kk v b=Jz l:=by
 unfold kk Jz;have:(v.y<b.y∨v.y=b.y∧b.x<v.x)↔(l=3∨l=1):=by rw[a.k3,a.k1];omega
 simp only[this]
theorem Iz{u v w x:Pt}(hu:u≠v)(hw:w≠v)(hx:x≠v)(h:(kq v w u∧((kq v x w∧kq v x u)∨(kq v u x∧kq v w x)))∨(kq v u w∧kq v u x∧kq v x w)):Out u v w x:=by
 obtain⟨e,hu⟩:=ye hu;obtain⟨kw,hw⟩:=ye hw;obtain⟨f,hx⟩:=ye hx;obtain⟨c1,a⟩:=yi (ae u v x);obtain⟨c2,b⟩:=yi (ae x v w);obtain⟨c3,c⟩:=yi (ae u v w);have g:GF (ae x v u) (2-c1):=by rw[iC u v x];exact tN a
 have i:GF (ae w v x) (2-c2):=by rw[iC x v w];exact tN b
 have d:GF (ae w v u) (2-c3):=by rw[iC u v w];exact tN c
 unfold Out;rw[Iy hu hx a,Iy hx hw b,Iy hu hw c,JC hx];refine JP e kw f c1 c2 c3 ?_ ?_
 ·rw[Ew hu hx a,Ew hx hw b,Ew hu hw c];rfl
 ·rcases h with⟨g1,⟨g2,g3⟩|⟨g2,g3⟩⟩|⟨g1,g2,g3⟩
  ·rw[tO hw hu d g1,tO hx hw b g2,tO hx hu g g3];simp
  ·rw[tO hw hu d g1,tO hu hx a g2,tO hw hx i g3];simp
  ·rw[tO hu hw c g1,tO hu hx a g2,tO hx hw b g3];simp
def bh(r:List Pt):List Dart:=(List.range r.length).map fun i=>(cor r i,cor r (i+1))
theorem jS{r:List Pt}(c:r.Nodup)(a:0<r.length){i j:Nat}(h:cor r i=cor r j):i%r.length=j%r.length:=by
 unfold cor at h;have b:=at0_some r (i%r.length) (Nat.mod_lt _ a);have d:=at0_some r (j%r.length) (Nat.mod_lt _ a);rw[h]at b;exact(List.getElem?_inj (Nat.mod_lt _ a) c).1 (b.trans d.symm)
theorem vz{r:List Pt}{i j:Nat}(h:i%r.length=j%r.length):cor r (i+1)=cor r (j+1):=by
 unfold cor;rw[Nat.add_mod,h,←Nat.add_mod]
theorem Ex{r:List Pt}(c:0<r.length){i j:Nat}(h:(i+1)%r.length=(j+1)%r.length):cor r i=cor r j:=by
 have:i%r.length=j%r.length:=by
  have a:(i+1+(r.length-1))%r.length=i%r.length:=by rw[show i+1+(r.length-1)=i+r.length from by omega,Nat.add_mod_right]
  have b:(j+1+(r.length-1))%r.length=j%r.length:=by rw[show j+1+(r.length-1)=j+r.length from by omega,Nat.add_mod_right]
  rw[←a,←b,Nat.add_mod,h,←Nat.add_mod]
 unfold cor;rw[this]
theorem kM{r:List Pt}{s:Dart}(h:s∈bh r):∃i,i<r.length∧s=(cor r i,cor r (i+1)):=by
 obtain⟨i,hi,rfl⟩:=List.mem_map.1 h;exact⟨i,List.mem_range.1 hi,rfl⟩
theorem hX{r:List Pt}(a:0<r.length)(i:Nat):(cor r i,cor r (i+1))∈bh r:=by
 refine List.mem_map.2 ⟨i%r.length,List.mem_range.2 (Nat.mod_lt _ a),?_⟩;have b:cor r (i%r.length)=cor r i:=by unfold cor;rw[Nat.mod_mod]
 rw[b,vz (i:=i%r.length) (j:=i) (by rw[Nat.mod_mod])]
theorem fJ(r:List Pt):da (bh r):=fun u=>by
 unfold bh;rw[dq];have key:∀k,sl (fun i=>u (cor r (i+1))-u (cor r i)) (List.range k)=u (cor r k)-u (cor r 0):=by
  intro k;induction k with
  |zero=>rw[Int.sub_self];rfl
  |succ k a=>
   rw[List.range_succ,fi,a,aV];show _+(_+0)=_;omega
 rw[key];have:cor r r.length=cor r 0:=by
  have:=An r 0;rwa [Nat.zero_add]at this
 rw[this,Int.sub_self]
theorem GH{r:List Pt}(a:r.Nodup)(b:0<r.length):(bh r).Nodup:=by
 refine gN List.nodup_range fun i hi j hj e=>?_;have c:=List.mem_range.1 hi;have d:=List.mem_range.1 hj;have:=jS a b (Prod.ext_iff.1 e).1;rw[Nat.mod_eq_of_lt c,Nat.mod_eq_of_lt d]at this;exact this
theorem rY{r:List Pt}(c:r.Nodup)(k:3≤r.length){s:Dart}(h:s∈bh r):bk s∉bh r:=by
 intro hb;obtain⟨i,hi,rfl⟩:=kM h;obtain⟨j,hj,e⟩:=kM hb;have d:=jS c O9 (Prod.ext_iff.1 e).1;have f:=jS c O9 (Prod.ext_iff.1 e).2;rw[Nat.mod_eq_of_lt hj]at d;rw[Nat.mod_eq_of_lt hi]at f;have a:(i+1)%r.length=i+1∨(i+1=r.length∧(i+1)%r.length=0):=by
  by_cases g:i+1=r.length
  ·exact .inr ⟨g,by rw[g,Nat.mod_self]⟩
  ·exact .inl (Nat.mod_eq_of_lt O9)
 have b:(j+1)%r.length=j+1∨(j+1=r.length∧(j+1)%r.length=0):=by
  by_cases g:j+1=r.length
  ·exact .inr ⟨g,by rw[g,Nat.mod_self]⟩
  ·exact .inl (Nat.mod_eq_of_lt O9)
 omega
section
variable {D:List Dart} {φ:Dart→Dart} {cs:List (List Dart)}
theorem bJ.ring(h:bJ D φ cs){r:List Pt}(m:r.Nodup)(w:3≤r.length)(hs:∀s∈bh r,s∈D):
  (0<tw (bh r)∧(∀s∈bh r,F (bh r) s=1∧F (bh r) (bk s)=0)∧∀s∈D,F (bh r) s=0∨F (bh r) s=1)∨
  (tw (bh r)<0∧(∀s∈bh r,F (bh r) s=0∧F (bh r) (bk s)= -1)∧∀s∈D,F (bh r) s=0∨F (bh r) s= -1):=by
 have c:0<r.length:=O9;have o:ko D (bh r):=⟨hs,fJ r⟩;have v:=yd h.gr (P:=fun s=>s∈bh r∨bk s∈bh r) fun s _ e=>e.symm;have hA:∀s∈bh r,s∈mX D fun s=>s∈bh r∨bk s∈bh r:=fun s hm=>bM.2 ⟨hs s hm,.inl hm⟩;have step:∀i,F (bh r) (cor r i,cor r (i+1))=F (bh r) (cor r (i+1),cor r (i+2)):=fun i=>by
  refine Em v hA (fJ r) (hA _ (hX c i)) (hA _ (hX c (i+1))) fun x hx y z=>?_;exfalso;rcases(bM.1 hx).2 with g|g
  ·obtain⟨j,_,e⟩:=kM g;have p:=jS m c (Prod.ext_iff.1 e).1;exact z ((Prod.ext_iff.1 e).2.trans (vz p.symm))
  ·obtain⟨j,_,e⟩:=kM g;have p:=jS m c (Prod.ext_iff.1 e).2;exact y ((Prod.ext_iff.1 e).1.trans (Ex c p.symm))
 have all:∀i,F (bh r) (cor r i,cor r (i+1))=F (bh r) (cor r 0,cor r 1):=fun i=>by
  induction i with
  |zero=>rfl
  |succ i A=>rw[←step i];exact A
 have f1:∀s∈bh r,F (bh r) s=F (bh r) (cor r 0,cor r 1):=fun s hm=>by
  obtain⟨i,_,rfl⟩:=kM hm;exact all i
 have f2:∀s∈bh r,F (bh r) (bk s)=F (bh r) (cor r 0,cor r 1)-1:=fun s hm=>by
  have a:=tI (L:=bh r) (h.gr.ne s (hs s hm));rw[yc (GH m c),show ind (bh r) s=1 from if_pos hm,show ind (bh r) (bk s)=0 from if_neg (rY m w hm),f1 s hm]at a;omega
 obtain⟨x,hx,B,_⟩:=iB v (oE _) (hA _ (hX c 0));have k:=B _ ⟨hA,fJ r⟩;have q:∃s,s∈bh r:=⟨_,hX c 0⟩;have l:F (bh r) (cor r 0,cor r 1)=0∨F (bh r) (cor r 0,cor r 1)=1:=by
  rcases(bM.1 hx).2 with g|g
  ·rw[f1 x g]at k;exact .inl k
  ·have:=f2 _ g;rw[kK]at this;omega
 generalize F (bh r) (cor r 0,cor r 1)=f at*;obtain⟨n,b⟩:=q;rcases l with rfl|rfl
 ·right;have hF:=nt h.gr o (fun x=>x=0∨x= -1) (.inl rfl) fun t d=>⟨.inl (f1 t d),.inr (f2 t d)⟩;have hb:ko D ((bh r).map bk):=⟨fun t d=>by
   obtain⟨u,hu,rfl⟩:=List.mem_map.1 d;exact h.gr.back u (hs u hu),(fJ r).back⟩
  have:=(h.area hb fun s hs=>by
   rw[qj];rcases hF s hs with e|e<;>rw[e]<;>omega).2 ⟨bk n,h.gr.back _ (hs _ b),by rw[qj,f2 n b];omega⟩
  rw[tL]at this;exact⟨O9,fun s hm=>⟨f1 s hm,f2 s hm⟩,hF⟩
 ·left;have hF:=nt h.gr o (fun x=>x=0∨x=1) (.inl rfl) fun t d=>⟨.inr (f1 t d),.inl (f2 t d)⟩;have:=(h.area o fun s hs=>by rcases hF s hs with e|e<;>rw[e]<;>omega).2 ⟨n,hs _ b,by rw[f1 n b];omega⟩;exact⟨this,fun s hm=>⟨f1 s hm,f2 s hm⟩,hF⟩
theorem BR{D L:List Dart}(g:Gr D)(b:ko D L){s:Dart}(hs:s∈D)(hv:∀t∈L,t.1≠s.1∧t.2≠s.1)(h:s∉L)(i:bk s∉L):wd L s.1=F L s:=by
 unfold F;rw[ox h i,Int.mul_zero,Int.add_zero,←Eh (c:=2) O9 L s.1];refine AA (b.2.sc 2) _ _ fun t j=>?_;obtain⟨u,hu,rfl⟩:=List.mem_map.1 j;have a:=b.1 u hu;obtain⟨k,l⟩:=hv u hu;have m:=lG s;by_cases d:u.1=s.2
 ·simp only[jv];rw[d];exact m.apart_next
 by_cases f:u.2=s.2
 ·simp only[jv];rw[f];exact i' m.apart_next
 exact m.apart (vm (g.far s hs u a (fun e=>k e.symm) (fun e=>l e.symm) (fun e=>d e.symm) (fun e=>f e.symm)).1 O9)
def pT(L:List Dart)(p:Pt):Nat:=(L.filter fun s=>decide (chi s.1 s.2 p≠0)).length
theorem yj(L:List Dart)(p:Pt):∃k:Int,(pT L p:Int)=wd L p+2*k:=by
 unfold pT wd;induction L with
 |nil=>exact⟨0,rfl⟩
 |cons s L a=>
  obtain⟨k,c⟩:=a;have b:chi s.1 s.2 p=0∨chi s.1 s.2 p=1∨chi s.1 s.2 p= -1:=by unfold chi;(repeat' split)<;>omega
  rw[aV];rcases b with e|e|e
  ·rw[List.filter_cons_of_neg (by simp[e]),e];exact⟨k,O9⟩
  ·rw[List.filter_cons_of_pos (by simp[e]),e,List.length_cons];exact⟨k,O9⟩
  ·rw[List.filter_cons_of_pos (by simp[e]),e,List.length_cons];exact⟨k+1,O9⟩
theorem o9{L:List Dart}{p:Pt}(h:wd L p=0∨wd L p=1∨wd L p= -1):pT L p%2=1↔wd L p≠0:=by
 obtain⟨k,a⟩:=yj L p;omega
end
