/-
  Which groups of owners hold an object, walked.
-/
import Derived.Test.YtfkgjbdeicggaaaGreatZj
set_option maxHeartbeats 8000000
set_option maxRecDepth 100000
namespace Go.Proofs.YtfkgjbdeicggaaaGreat
open Go.RowKit Go.Proofs.Px Go.Proofs.Pn Go.Proofs.Pm Go.Proofs.Pg Go.Proofs.Pto Go.Proofs.Pf
attribute [local go_sem] Oper.semAt_some
theorem zI(o:Ob)(rv tv:Value)(b:Nat)(w:World)(hb:w.heap[b]? =some (.cells (eN o rv tv) 47 (0,0)))(L:List BA)(v:Value)(h:ff w v L)(hl:L.length≤100000):Calls Tryz.prog 43 #[v,.pointer (some ⟨b,0,none⟩)] w fun e w'=>e= .returned (.bool (dr o.id L))∧w'=w:=by
 have HC:=aa (eB w v L o.id h hl);unfold eN at hb;have c1:w.cell? ⟨b,0,none⟩=some (.string o.id):=cell_of_row w b 0 _ _ _ hb;clear hb h;go_enter Tryz.func43,Tryz.ntmps43;go_wp2_with fail;refine HC.out.mono ?_;rintro _ w2 ⟨rfl,rfl⟩;clear HC;go_wp2_with fail;go_ret;exact⟨rfl,rfl⟩
theorem uF(o:Ob)(rv tv:Value)(b:Nat)(w:World)(h:w.heap[b]? =some (.cells (eN o rv tv) 47 (0,0)))(L:List (List BA))(v:Value)(hr:DO w v L)(hl:L.length≤100000)(hs:∀s∈L,s.length≤100000):Calls Tryz.prog 102 #[v,.func (.func 43) #[] #[.pointer (some ⟨b,0,none⟩)]] w fun e w'=>∃i:Int,e= .returned (.int .i64 i)∧decide (0≤i)=L.any (dr o.id)∧w'=w:=by
 have HT:=aa h;have HOK:=aa hs;obtain⟨A,c,rfl,_,hA⟩:=hr;have HA:=aa hA;obtain⟨R,hR⟩:∃R,L.any (dr o.id)=R:=⟨_,rfl⟩;rw[hR];have HR:=aa hR;clear hA hR h hs;go_enter Tryz.func102,Tryz.ntmps102;go_wp2_with fail;go_loopw [8] (fun i wr=>∃(k:Nat),k≤L.length∧i= .int .i64 k∧wr=w∧Hid ((L.drop k).any (dr o.id)=R)) (fun i _=>L.length-(intOf i).toNat)
 case atStart=>exact⟨0,Nat.zero_le _,rfl,rfl,HR⟩
 case round=>
  obtain⟨k,hk,rfl,rfl,hr⟩:=hrel;by_cases hlt:k<L.length
  ·obtain⟨g,off,rfl,hg,hp⟩:=HA.out.resolve_left (by rintro rfl;simp at hlt);obtain⟨iv,c1,hst⟩:=hp k _ (List.getElem?_eq_getElem hlt);have hr2:=hr.out;rw[List.drop_eq_getElem_cons hlt,List.any_cons]at hr2;have hok:=HOK.out _ (List.getElem_mem hlt);generalize L[k]=x at*;have HX:=aa (zI o rv tv b wr HT.out x iv hst hok);have k0:(0:Int)≤k:=O9;have k1:(k:Int)<L.length:=O9;have HL:=aa hlt;have HM:=aa (show L.length-(k+1)<L.length-k from by omega);clear hr hlt hp hok hst;cases hb:dr o.id x with
   |true=>
    rw[hb]at hr2 HX;have HR2:=aa hr2;clear hr2 hb;go_wp2_with fail;refine HX.out.mono ?_;rintro _ w2 ⟨rfl,rfl⟩;clear HX c1;go_wp2_with fail;go_ret;refine⟨_,rfl,?_,rfl⟩;rw[←HR2.out];simp
   |false=>
    rw[hb]at hr2 HX;have HR2:=aa hr2;clear hr2 hb;go_wp2_with fail;refine HX.out.mono ?_;rintro _ w2 ⟨rfl,rfl⟩;clear HX c1;go_wp2_with fail;refine⟨⟨k+1,HL.out,by go_num,trivial,aa (by simpa using HR2.out)⟩,?_⟩;have:=HM.out;simp[intOf];omega
  ·(have hz:R=false:=by rw[←hr.out,List.drop_eq_nil_of_le O9];rfl);have HZ:=aa hz;clear hr hz;go_wp2_with fail;go_ret;exact⟨_,rfl,by rw[HZ.out];decide,rfl⟩
theorem pM(o:Ob)(rv tv:Value)(b:Nat)(w:World)(h:w.heap[b]? =some (.cells (eN o rv tv) 47 (0,0)))(L:List (List BA))(v:Value)(hr:DO w v L)(hl:L.length≤100000)(hs:∀s∈L,s.length≤100000):Calls Tryz.prog 42 #[v,.func (.func 43) #[] #[.pointer (some ⟨b,0,none⟩)]] w fun e w'=>e= .returned (.bool (L.any (dr o.id)))∧w'=w:=by
 have HI:=aa (uF o rv tv b w h L v hr hl hs);clear hr h hs;obtain⟨R,hR⟩:∃R,L.any (dr o.id)=R:=⟨_,rfl⟩;rw[hR]at HI ⊢;clear hR;go_enter Tryz.func42,Tryz.ntmps42;go_wp2_with fail;refine HI.out.mono ?_;rintro _ w2 ⟨r,rfl,hr,rfl⟩;have HR:=aa hr;clear hr HI;go_wp2_with fail;go_ret;exact⟨ag HR.out,rfl⟩
end Go.Proofs.YtfkgjbdeicggaaaGreat
namespace Go.Proofs.YtfkgjbdeicggaaaGreat
open Go.RowKit Go.Proofs.Px Go.Proofs.Pn Go.Proofs.Pm Go.Proofs.Pg Go.Proofs.Pto Go.Proofs.Pf
structure Fa where
 o:Value
 ol:List BA
 h:Value
 hr:List (Value×List BA)
 a:Value
 al:List BA
def Fa.cells(f:Fa):List Value:=[f.o,f.h,f.a]
structure tg(B:Nat)(fs:List Fa)(v:Value)(W:World):Prop where
 own:W.ownsRow B 42 3 v fs.length (fs.flatMap Fa.cells)
 are:∀f∈fs,W.ownsRow B 9 1 f.a f.al.length (f.al.map .string)
 hol:∀f∈fs,W.ownsRow B 39 1 f.h f.hr.length (f.hr.map Prod.fst)
 neA:∀(i j:Nat)(x y:Fa),fs[i]? =some x→fs[j]? =some y→i≠j→∀b,x.a.ownBlock=some b→y.a.ownBlock≠some b
 neH:∀(i j:Nat)(x y:Fa),fs[i]? =some x→fs[j]? =some y→i≠j→∀b,x.h.ownBlock=some b→y.h.ownBlock≠some b
theorem tg.below{B:Nat}{fs:List Fa}{v:Value}{W W':World}(h:tg B fs v W)(hb:Below W.heap.size W W'):tg B fs v W':=
 ⟨ao h.own hb,fun f hf=>ao (h.are f hf) hb,fun f hf=>ao (h.hol f hf) hb,h.neA,h.neH⟩
theorem rh:∀(fs:List Fa)(m:Nat)(f:Fa),fs[m]? =some f→(fs.flatMap Fa.cells)[m*3]? =some f.o∧(fs.flatMap Fa.cells)[m*3+1]? =some f.h∧(fs.flatMap Fa.cells)[m*3+2]? =some f.a
 | [],_,_,h=>by simp at h
 |g::fs,0,f,h=>by
  simp at h;subst h;simp[Fa.cells]
 |g::fs,m+1,f,h=>by
  have ih:=rh fs m f (by simpa using h);rw[List.flatMap_cons];refine⟨?_,?_,?_⟩<;>rw[List.getElem?_append_right (by simp[Fa.cells];omega)]<;>simp only[Fa.cells,List.length_cons,List.length_nil]
  ·rw[show(m+1)*3-(0+1+1+1)=m*3 from by omega];exact ih.1
  ·rw[show(m+1)*3+1-(0+1+1+1)=m*3+1 from by omega];exact ih.2.1
  ·rw[show(m+1)*3+2-(0+1+1+1)=m*3+2 from by omega];exact ih.2.2
theorem zJ:∀(fs:List Fa)(m:Nat)(f:Fa)(a h:Value)(al:List BA)(hr:List (Value×List BA)),fs[m]? =some f→(fs.flatMap Fa.cells).set (m*3+2) a=(fs.set m { f with a:=a,al:=al}).flatMap Fa.cells∧(fs.flatMap Fa.cells).set (m*3+1) h=(fs.set m { f with h:=h,hr:=hr}).flatMap Fa.cells
 | [],_,_,_,_,_,_,h=>by simp at h
 |g::fs,0,f,a,h,al,hr,e=>by
  simp at e;subst e;simp[Fa.cells]
 |g::fs,m+1,f,a,h,al,hr,e=>by
  have ih:=zJ fs m f a h al hr (by simpa using e);rw[List.flatMap_cons,List.set_cons_succ,List.set_cons_succ,List.flatMap_cons,List.flatMap_cons,←ih.1,←ih.2];constructor<;>rw[List.set_append_right _ _ (by simp[Fa.cells];omega)]<;>simp only[Fa.cells,List.length_cons,List.length_nil]
  ·rw[show(m+1)*3+2-(0+1+1+1)=m*3+2 from by omega]
  ·rw[show(m+1)*3+1-(0+1+1+1)=m*3+1 from by omega]
theorem nX{α:Type}{fs:List α}{m:Nat}{f g:α}(h:g∈fs.set m f):g=f∨∃i,i≠m∧fs[i]? =some g:=by
 obtain⟨i,hi,e⟩:=List.mem_iff_getElem.1 h;by_cases c:i=m
 ·subst c;rw[List.getElem_set_self]at e;exact .inl e.symm
 ·rw[List.getElem_set_ne (fun e=>c e.symm)]at e;exact .inr ⟨i,c,by rw[List.getElem?_eq_getElem (by simpa using hi),e]⟩
theorem p7{α:Type}{fs:List α}{m:Nat}{f f':α}(hm:fs[m]? =some f)(R:α→α→Prop)(h:∀(i j:Nat)(x y:α),fs[i]? =some x→fs[j]? =some y→i≠j→R x y)(h1:∀(i:Nat)(x:α),i≠m→fs[i]? =some x→R x f')(h2:∀(i:Nat)(x:α),i≠m→fs[i]? =some x→R f' x):∀(i j:Nat)(x y:α),(fs.set m f')[i]? =some x→(fs.set m f')[j]? =some y→i≠j→R x y:=by
 intro i j x y hi hj hij;have hl:=(List.getElem?_eq_some_iff.1 hm).1;by_cases a:i=m
 ·subst a;rw[List.getElem?_set_self hl]at hi;obtain rfl:=Option.some.inj hi;rw[List.getElem?_set_ne (fun e=>hij e)]at hj;exact h2 j y (fun e=>hij e.symm) hj
 ·rw[List.getElem?_set_ne (fun e=>a e.symm)]at hi;by_cases b:j=m
  ·subst b;rw[List.getElem?_set_self hl]at hj;obtain rfl:=Option.some.inj hj;exact h1 i x a hi
  ·rw[List.getElem?_set_ne (fun e=>b e.symm)]at hj;exact h i j x y hi hj hij
theorem tg.area{B m g n c:Nat}{fs:List Fa}{W W1:World}{f:Fa}{a':Value}{s:BA}(h:tg B fs (.slice (some ⟨g,0,none⟩) n c) W)(hn:n=fs.length)(hm:fs[m]? =some f)(hr:W1.ownsRow B 9 1 a' (f.al.length+1) (f.al.map .string++[.string s]))(hg:W.grownBy W1 f.a.ownBlock)(hat:∀b,a'.ownBlock=some b→f.a.ownBlock=some b∨W.heap.size≤b):tg B (fs.set m { f with a:=a',al:=f.al++[s]}) (.slice (some ⟨g,0,none⟩) n c) (W1.setCell ⟨g,m*3+2,none⟩ a'):=by
 subst hn;have hfm:=List.mem_of_getElem? hm;have hf:=h.are f hfm;have ho1:=bG h.own hg (fun b h3 h4=>bR hf h.own (by decide) b h4 h3);obtain⟨ho2,hs⟩:=ho1.stored (m*3+2) a';have key:∀ {e:TypeId}{sz n:Nat}{v:Value}{xs:List Value},e≠42→W1.ownsRow B e sz v n xs→(W1.setCell ⟨g,m*3+2,none⟩ a').ownsRow B e sz v n xs:=fun he hx=>bG hx hs (fun b h3 h4=>bR hx ho1 he b h3 h4)
 have hol:∀x∈fs,(W1.setCell ⟨g,m*3+2,none⟩ a').ownsRow B 39 1 x.h x.hr.length (x.hr.map Prod.fst):=fun x hx=>key (by decide) (bG (h.hol x hx) hg (fun b h3 h4=>bR hf (h.hol x hx) (by decide) b h4 h3));have fresh:∀(i:Nat)(x:Fa),i≠m→fs[i]? =some x→∀b,x.a.ownBlock=some b→a'.ownBlock≠some b:=fun i x hi hx b hb hb'=>by
  rcases hat b hb' with e|e
  ·exact h.neA i m x f hx hm hi b hb e
  ·obtain⟨_,cc,hcc⟩:=bK (h.are x (List.mem_of_getElem? hx)) hb;have:=lt_of_block hcc;omega
 refine⟨?_,fun x hx=>?_,fun x hx=>?_,?_,?_⟩
 ·rw[List.length_set,←(zJ fs m f a' f.h (f.al++[s]) f.hr hm).1];simpa using ho2
 ·rcases nX hx with rfl|⟨i,hi,hx⟩
  ·simp only[List.length_append,List.map_append];exact key (by decide) hr
  ·exact key (by decide) (bG (h.are x (List.mem_of_getElem? hx)) hg (fun b h3 h4=>h.neA i m x f hx hm hi b h3 h4))
 ·rcases nX hx with rfl|⟨i,hi,hx⟩
  ·exact hol f hfm
  ·exact hol x (List.mem_of_getElem? hx)
 ·exact p7 hm (fun x y=>∀b,x.a.ownBlock=some b→y.a.ownBlock≠some b) h.neA (fun i x hi hx b hb=>fresh i x hi hx b hb) (fun i x hi hx b hb hb'=>fresh i x hi hx b hb' hb)
 ·exact p7 hm (fun x y=>∀b,x.h.ownBlock=some b→y.h.ownBlock≠some b) h.neH (fun i x hi hx=>h.neH i m x f hx hm hi) (fun i x hi hx=>h.neH m i f x hm hx (fun e=>hi e.symm))
theorem tg.hole{B m g n c:Nat}{fs:List Fa}{W W1:World}{f:Fa}{h':Value}{s:Value×List BA}(h:tg B fs (.slice (some ⟨g,0,none⟩) n c) W)(hn:n=fs.length)(hm:fs[m]? =some f)(hr:W1.ownsRow B 39 1 h' (f.hr.length+1) (f.hr.map Prod.fst++[s.1]))(hg:W.grownBy W1 f.h.ownBlock)(hat:∀b,h'.ownBlock=some b→f.h.ownBlock=some b∨W.heap.size≤b):tg B (fs.set m { f with h:=h',hr:=f.hr++[s]}) (.slice (some ⟨g,0,none⟩) n c) (W1.setCell ⟨g,m*3+1,none⟩ h'):=by
 subst hn;have hfm:=List.mem_of_getElem? hm;have hf:=h.hol f hfm;have ho1:=bG h.own hg (fun b h3 h4=>bR hf h.own (by decide) b h4 h3);obtain⟨ho2,hs⟩:=ho1.stored (m*3+1) h';have key:∀ {e:TypeId}{sz n:Nat}{v:Value}{xs:List Value},e≠42→W1.ownsRow B e sz v n xs→(W1.setCell ⟨g,m*3+1,none⟩ h').ownsRow B e sz v n xs:=fun he hx=>bG hx hs (fun b h3 h4=>bR hx ho1 he b h3 h4)
 have are:∀x∈fs,(W1.setCell ⟨g,m*3+1,none⟩ h').ownsRow B 9 1 x.a x.al.length (x.al.map .string):=fun x hx=>key (by decide) (bG (h.are x hx) hg (fun b h3 h4=>bR hf (h.are x hx) (by decide) b h4 h3));have fresh:∀(i:Nat)(x:Fa),i≠m→fs[i]? =some x→∀b,x.h.ownBlock=some b→h'.ownBlock≠some b:=fun i x hi hx b hb hb'=>by
  rcases hat b hb' with e|e
  ·exact h.neH i m x f hx hm hi b hb e
  ·obtain⟨_,cc,hcc⟩:=bK (h.hol x (List.mem_of_getElem? hx)) hb;have:=lt_of_block hcc;omega
 refine⟨?_,fun x hx=>?_,fun x hx=>?_,?_,?_⟩
 ·rw[List.length_set,←(zJ fs m f f.a h' f.al (f.hr++[s]) hm).2];simpa using ho2
 ·rcases nX hx with rfl|⟨i,hi,hx⟩
  ·exact are f hfm
  ·exact are x (List.mem_of_getElem? hx)
 ·rcases nX hx with rfl|⟨i,hi,hx⟩
  ·simp only[List.length_append,List.map_append];exact key (by decide) hr
  ·exact key (by decide) (bG (h.hol x (List.mem_of_getElem? hx)) hg (fun b h3 h4=>h.neH i m x f hx hm hi b h3 h4))
 ·exact p7 hm (fun x y=>∀b,x.a.ownBlock=some b→y.a.ownBlock≠some b) h.neA (fun i x hi hx=>h.neA i m x f hx hm hi) (fun i x hi hx=>h.neA m i f x hm hx (fun e=>hi e.symm))
 ·exact p7 hm (fun x y=>∀b,x.h.ownBlock=some b→y.h.ownBlock≠some b) h.neH (fun i x hi hx b hb=>fresh i x hi hx b hb) (fun i x hi hx b hb hb'=>fresh i x hi hx b hb' hb)
theorem tg.push{B:Nat}{fs:List Fa}{v v':Value}{W W':World}{o:Value}{ol:List BA}(h:tg B fs v W)(hg:W.grownBy W' v.ownBlock)(ho:W'.ownsRow B 42 3 v' (fs.length+1) (fs.flatMap Fa.cells++[o,.slice none 0 0,.slice none 0 0])):tg B (fs++[⟨o,ol,.slice none 0 0,[],.slice none 0 0,[]⟩]) v' W':=by
 have last:∀(i:Nat)(x:Fa),(fs++[(⟨o,ol,.slice none 0 0,[],.slice none 0 0,[]⟩:Fa)])[i]? =some x→fs[i]? =some x∨(x.a= .slice none 0 0∧x.h= .slice none 0 0):=fun i x hx=>by
  by_cases c:i<fs.length
  ·rw[List.getElem?_append_left c]at hx;exact .inl hx
  ·rw[List.getElem?_append_right O9]at hx;have:x=⟨o,ol,.slice none 0 0,[],.slice none 0 0,[]⟩:=by
    have:=List.mem_of_getElem? hx;simpa using this
   subst this;exact .inr ⟨rfl,rfl⟩
 refine⟨?_,fun x hx=>?_,fun x hx=>?_,fun i j x y hi hj hij b hb=>?_,fun i j x y hi hj hij b hb=>?_⟩
 ·rw[List.length_append,List.flatMap_append];exact ho
 ·rcases List.mem_append.1 hx with hx|hx
  ·exact bG (h.are x hx) hg (fun b h3 h4=>bR (h.are x hx) h.own (by decide) b h3 h4)
  ·rw[List.mem_singleton.1 hx];exact World.ownsRow_nil _ _ _ _
 ·rcases List.mem_append.1 hx with hx|hx
  ·exact bG (h.hol x hx) hg (fun b h3 h4=>bR (h.hol x hx) h.own (by decide) b h3 h4)
  ·rw[List.mem_singleton.1 hx];exact World.ownsRow_nil _ _ _ _
 ·rcases last i x hi with hi|⟨e,_⟩
  ·rcases last j y hj with hj|⟨e,_⟩
   ·exact h.neA i j x y hi hj hij b hb
   ·rw[e];intro h;cases h
  ·rw[e]at hb;cases hb
 ·rcases last i x hi with hi|⟨_,e⟩
  ·rcases last j y hj with hj|⟨_,e⟩
   ·exact h.neH i j x y hi hj hij b hb
   ·rw[e];intro h;cases h
  ·rw[e]at hb;cases hb
