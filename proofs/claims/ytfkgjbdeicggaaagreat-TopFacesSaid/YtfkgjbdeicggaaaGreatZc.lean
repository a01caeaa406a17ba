/-
  The plane of a map while it is made.
-/
import Derived.Test.YtfkgjbdeicggaaaGreatZb
import Derived.Shelf.Spec.SlicesGrow
set_option maxHeartbeats 8000000
set_option maxRecDepth 100000
namespace Go.Proofs.YtfkgjbdeicggaaaGreat
open Go.RowKit Go.Proofs.Px Go.Proofs.Pn Go.Proofs.Pm Go.Proofs.Pg Go.Proofs.Pto Go.Proofs.Pf
structure ke(l:List Ob)(n0 x ba bn bp:Nat)(sv:Value)(D E:List BA)(G:BA→List BA)(P:BA→BA)(la lp:List (BA×Value))(rows:List (Rw BA))(q:BA→Nat)(W:World):Prop where
 box:W.heap[x]? =some (.cells #[.map (some ba),.map (some bn),.map (some bp),sv] 182 (0,0))
 mat:cE W ba la
 mnb:cE W bn (keyed rows)
 mpt:cE W bp lp
 rr:bW rows G
 sr:uO n0 (rows.map Prod.snd) W
 pts:∀v∈D,aJ la v=some (Pm.ptV (ar l v))
 labs:∀v,aJ lp v=if v∈E then some (.pointer (some ⟨q v,0,none⟩))else none
 cell:∀v∈E,n0≤q v∧W.heap[q v]? =some (.cells #[.string (P v)] 9 (0,0))
 inj:∀u∈E,∀v∈E,q u=q v→u=v
 apt:∀y∈rows,∀v∈E,y.2.1.ownBlock≠some (q v)
 dis:ba≠bn∧ba≠bp∧bn≠bp
section
variable {l:List Ob} {n0 x ba bn bp:Nat} {sv:Value} {D E:List BA} {G:BA→List BA} {P:BA→BA} {la lp:List (BA×Value)} {rows:List (Rw BA)} {q:BA→Nat} {W W':World}
theorem ke.kept(h:ke l n0 x ba bn bp sv D E G P la lp rows q W){row:Option Nat}(hg:W.grownBy W' row)(h1:row≠some x)(h2:row≠some ba)(h3:row≠some bn)(h4:row≠some bp)(h5:∀v∈E,row≠some (q v))(h6:∀y∈rows,∀b,y.2.1.ownBlock=some b→row≠some b):ke l n0 x ba bn bp sv D E G P la lp rows q W':=
 ⟨(hg.block x (lt_of_block h.box) (fun e=>h1 e.symm)).trans h.box,h.mat.kept hg (fun e=>h2 e.symm),h.mnb.kept hg (fun e=>h3 e.symm),h.mpt.kept hg (fun e=>h4 e.symm),h.rr,h.sr.kept hg (fun y hy b hb=>by
  obtain⟨z,hz,rfl⟩:=List.mem_map.1 hy;exact h6 z hz b hb),h.pts,h.labs,fun v hv=>⟨(h.cell v hv).1,(hg.block _ (lt_of_block (h.cell v hv).2) (fun e=>h5 v hv e.symm)).trans (h.cell v hv).2⟩,h.inj,h.apt,h.dis⟩
theorem ke.lift(h:ke l n0 x ba bn bp sv D E G P la lp rows q W)(hb:Below W.heap.size W W'):ke l n0 x ba bn bp sv D E G P la lp rows q W':=
 h.kept (aI hb) (by simp) (by simp) (by simp) (by simp) (fun _ _=>by simp) (fun _ _ _ _=>by simp)
theorem ke.no_map(h:ke l n0 x ba bn bp sv D E G P la lp rows q W){b:Nat}(hb:∃es c,W.heap[b]? =some (.map es c)):some b≠some x∧(∀v∈E,some b≠some (q v))∧∀y∈rows,∀g,y.2.1.ownBlock=some g→some b≠some g:=by
 obtain⟨es,c,hb⟩:=hb;refine⟨fun e=>?_,fun v hv e=>?_,fun y hy g hg e=>?_⟩
 ·cases e;rw[h.box]at hb;cases hb
 ·cases e;rw[(h.cell v hv).2]at hb;cases hb
 ·cases e;exact aH (h.sr.row y.2 (List.mem_map.2 ⟨y,hy,rfl⟩)) ⟨es,c,hb⟩ hg
theorem ke.put_at(h:ke l n0 x ba bn bp sv D E G P la lp rows q W){v:BA}(hm:cE W' ba (cR la v (Pm.ptV (ar l v))))(hg:W.grownBy W' (some ba)):ke l n0 x ba bn bp sv (v::D) E G P (cR la v (Pm.ptV (ar l v))) lp rows q W':=by
 obtain⟨n1,n2,n3⟩:=h.no_map (aC h.mat);refine⟨(hg.block x (lt_of_block h.box) (fun e=>n1 e.symm)).trans h.box,hm,h.mnb.kept hg (fun e=>h.dis.1 (Option.some.inj e).symm),h.mpt.kept hg (fun e=>h.dis.2.1 (Option.some.inj e).symm),h.rr,h.sr.kept hg (fun y hy b hb=>?_),fun u hu=>?_,h.labs,fun u hu=>⟨(h.cell u hu).1,(hg.block _ (lt_of_block (h.cell u hu).2) (fun e=>n2 u hu e.symm)).trans (h.cell u hu).2⟩,h.inj,h.apt,h.dis⟩
 ·obtain⟨z,hz,rfl⟩:=List.mem_map.1 hy;exact n3 z hz b hb
 ·rw[cC];by_cases e:u=v
  ·rw[if_pos e,e]
  ·rw[if_neg e];rcases List.mem_cons.1 hu with rfl|hu
   ·exact absurd rfl e
   ·exact h.pts u hu
theorem ke.nb_at(h:ke l n0 x ba bn bp sv D E G P la lp rows q W)(p:BA):
  ∃pre post v0,(aJ (keyed rows) p).getD (.slice none 0 0)=v0∧ff W v0 (G p)∧W.ownsRow n0 9 1 v0 (G p).length ((G p).map .string)∧(v0.ownBlock=none∨∃y∈rows,y.2.1=v0)∧
   ∀(v':Value)(s:BA)(W1 W2:World),W.grownBy W1 v0.ownBlock→W1.ownsRow n0 9 1 v' (G p++[s]).length ((G p++[s]).map .string)→(∀b,v'.ownBlock=some b→v0.ownBlock=some b∨W.heap.size≤b)→cE W2 bn (cR (keyed rows) p v')→W1.grownBy W2 (some bn)→cR (keyed rows) p v'=keyed (pre++(p,v',G p++[s])::post)∧(pre++(p,v',G p++[s])::post).length≤rows.length+1∧ke l n0 x ba bn bp sv D E (fun u=>if u=p then G p++[s]else G u) P la lp (pre++(p,v',G p++[s])::post) q W2:=by
 have hsplit:∃(pre post:List (Rw BA))(v0:Value),(aJ (keyed rows) p).getD (.slice none 0 0)=v0∧uO n0 (pre.map Prod.snd++(v0,G p)::post.map Prod.snd) W∧(v0.ownBlock=none∨∃y∈rows,y.2.1=v0)∧(∀y∈pre++post,y∈rows)∧∀v' s,bW (pre++(p,v',G p++[s])::post) (fun u=>if u=p then G p++[s]else G u)∧cR (keyed rows) p v'=keyed (pre++(p,v',G p++[s])::post)∧(pre++(p,v',G p++[s])::post).length≤rows.length+1:=by
  rcases h.rr.look p with⟨h1,h2⟩|⟨pre,y,post,rfl,hxp,hx2,hne,h3⟩
  ·have hsr:uO n0 (rows.map Prod.snd++((.slice none 0 0:Value),([]:List BA))::([]:List (Rw BA)).map Prod.snd) W:=by
    refine⟨fun y hy=>?_,?_⟩
    ·rcases List.mem_append.1 hy with hy|hy
     ·exact h.sr.row y hy
     ·simp at hy;rw[hy];exact World.ownsRow_nil _ _ _ _
    ·refine List.pairwise_append.2 ⟨h.sr.ne,List.pairwise_singleton _ _,fun y _ z hz b _=>?_⟩;simp at hz;rw[hz];simp[Value.ownBlock]
   refine⟨rows,[],.slice none 0 0,by rw[h2];rfl,by rw[h1];exact hsr,.inl rfl,fun y hy=>by simpa using hy,fun v' s=>?_⟩;obtain⟨r1,r2⟩:=h.rr.add h1 v' s;rw[h1,List.nil_append];rw[h1,List.nil_append]at r1;exact⟨r1,r2,by simp⟩
  ·have hsr:=h.sr;rw[List.map_append,List.map_cons]at hsr;(have hx:y.2=(y.2.1,G p):=by rw[←hx2]);rw[hx]at hsr;refine⟨pre,post,y.2.1,by rw[h3];rfl,hsr,.inr ⟨y,List.mem_append_right _ (List.mem_cons_self ..),rfl⟩,fun z hz=>?_,fun v' s=>?_⟩
   ·rcases List.mem_append.1 hz with hz|hz
    ·exact List.mem_append_left _ hz
    ·exact List.mem_append_right _ (List.mem_cons_of_mem _ hz)
   ·obtain⟨r1,r2⟩:=h.rr.set hxp v' s;exact⟨r1,r2,by simp⟩
 obtain⟨pre,post,v0,e0,hsr,hv0,hsub,hput⟩:=hsplit;have hrow:=hsr.row (v0,G p) (List.mem_append_right _ (List.mem_cons_self ..));refine⟨pre,post,v0,e0,cT hrow rfl,hrow,hv0,fun v' s W1 W2 hg1 hr1 hat hm2 hg2=>?_⟩;obtain⟨r1,r2,r3⟩:=hput v' s;have hsr1:=hsr.grow (x':=(v',G p++[s])) hg1 (.inr rfl) hr1 hat;have hq0:∀v∈E,v0.ownBlock≠some (q v):=fun v hv e=>by
  rcases hv0 with g|⟨y,hy,rfl⟩
  ·rw[g]at e;cases e
  ·exact h.apt y hy v hv e
 have hcell:∀ {b:Nat}{cs:Array Value}{t:TypeId},W.heap[b]? =some (.cells cs t (0,0))→v0.ownBlock≠some b→W1.heap[b]? =some (.cells cs t (0,0)):=fun hb hne=>(hg1.block _ (lt_of_block hb) (fun e=>hne e.symm)).trans hb;have hx0:v0.ownBlock≠some x:=fun e=>by
  obtain⟨_,cur,hc⟩:=bK hrow e;rw[h.box]at hc;cases hc
 have hbx:=hcell h.box hx0;have hne:∀ {b:Nat},(∃es c,W.heap[b]? =some (.map es c))→v0.ownBlock≠some b:=fun hb=>aH hrow hb;have ma:=h.mat.kept hg1 (fun e=>hne (aC h.mat) e.symm);have mp:=h.mpt.kept hg1 (fun e=>hne (aC h.mpt) e.symm);have mn:=h.mnb.kept hg1 (fun e=>hne (aC h.mnb) e.symm);have mb:=aC mn;have hcq:∀v∈E,W1.heap[q v]? =some (.cells #[.string (P v)] 9 (0,0)):=fun v hv=>hcell (h.cell v hv).2 (hq0 v hv);have hmne:∀ {b:Nat}{cs:Array Value}{t:TypeId},W1.heap[b]? =some (.cells cs t (0,0))→b≠bn:=fun hb e=>by
  subst e;obtain⟨es,c,hc⟩:=mb;rw[hb]at hc;cases hc
 have hb2:∀ {b:Nat}{cs:Array Value}{t:TypeId},W1.heap[b]? =some (.cells cs t (0,0))→W2.heap[b]? =some (.cells cs t (0,0)):=fun hb=>(hg2.block _ (lt_of_block hb) (fun e=>hmne hb (Option.some.inj e))).trans hb;refine⟨r2,r3,hb2 hbx,ma.kept hg2 (fun e=>h.dis.1 (Option.some.inj e)),by rw[←r2];exact hm2,mp.kept hg2 (fun e=>h.dis.2.2 (Option.some.inj e).symm),r1,?_,h.pts,h.labs,fun v hv=>⟨(h.cell v hv).1,hb2 (hcq v hv)⟩,h.inj,fun y hy v hv e=>?_,h.dis⟩
 ·rw[List.map_append,List.map_cons];refine hsr1.kept hg2 (fun y hy b hb e=>?_);cases e;exact aH (hsr1.row y hy) mb hb
 ·have hy':y∈pre++post∨y=(p,v',G p++[s]):=by
   rcases List.mem_append.1 hy with hy|hy
   ·exact .inl (List.mem_append_left _ hy)
   ·rcases List.mem_cons.1 hy with hy|hy
    ·exact .inr hy
    ·exact .inl (List.mem_append_right _ hy)
  rcases hy' with hy'|rfl
  ·exact h.apt y (hsub y hy') v hv e
  ·rcases hat _ e with g|g
   ·exact hq0 v hv g
   ·have:=lt_of_block (h.cell v hv).2;omega
theorem ke.put_lab(h:ke l n0 x ba bn bp sv D E G P la lp rows q W){v:BA}(hP:P v=v)(hn:n0≤W.heap.size)(hm:cE W' bp (cR lp v (.pointer (some ⟨W.heap.size,0,none⟩))))(hg:(W.alloc (.cells #[.string v] 9)).grownBy W' (some bp)):ke l n0 x ba bn bp sv D (v::E) G P la (cR lp v (.pointer (some ⟨W.heap.size,0,none⟩))) rows (fun u=>if u=v then W.heap.size else q u) W':=by
 have ha:=h.lift ((Below.refl _ _).alloc (Nat.le_refl _) (.cells #[.string v] 9));obtain⟨n1,n2,n3⟩:=ha.no_map (aC ha.mpt);have hnew:=heap_alloc_new W (.cells #[.string v] 9);have hbp:bp<W.heap.size:=by obtain⟨_,_,h⟩:=aC h.mpt;exact lt_of_block h
 have hlt:∀u∈E,q u<W.heap.size:=fun u hu=>lt_of_block (h.cell u hu).2;refine⟨(hg.block x (lt_of_block ha.box) (fun e=>n1 e.symm)).trans ha.box,ha.mat.kept hg (fun e=>h.dis.2.1 (Option.some.inj e)),ha.mnb.kept hg (fun e=>h.dis.2.2 (Option.some.inj e)),hm,h.rr,ha.sr.kept hg (fun y hy b hb=>?_),h.pts,fun u=>?_,fun u hu=>?_,fun u hu z hz e=>?_,fun y hy u hu e=>?_,h.dis⟩
 ·obtain⟨z,hz,rfl⟩:=List.mem_map.1 hy;exact n3 z hz b hb
 ·rw[cC];by_cases e:u=v
  ·rw[if_pos e,if_pos (by rw[e];exact List.mem_cons_self ..),if_pos e]
  ·rw[if_neg e,h.labs];by_cases g:u∈E
   ·rw[if_pos g,if_pos (List.mem_cons_of_mem _ g),if_neg e]
   ·rw[if_neg g,if_neg (fun k=>by
     rcases List.mem_cons.1 k with k|k
     ·exact e k
     ·exact g k)]
 ·by_cases e:u=v
  ·simp only[if_pos e];refine⟨hn,(hg.block _ (by simp) (fun e=>by have:=Option.some.inj e;omega)).trans ?_⟩;rw[hnew,e,hP]
  ·simp only[if_neg e];have hu':u∈E:=by
    rcases List.mem_cons.1 hu with k|k
    ·exact absurd k e
    ·exact k
   exact⟨(ha.cell u hu').1,(hg.block _ (lt_of_block (ha.cell u hu').2) (fun e=>n2 u hu' e.symm)).trans (ha.cell u hu').2⟩
 ·by_cases e1:u=v<;>by_cases e2:z=v
  ·rw[e1,e2]
  ·simp only[if_pos e1,if_neg e2]at e;have:=hlt z ((List.mem_cons.1 hz).resolve_left e2);omega
  ·simp only[if_neg e1,if_pos e2]at e;have:=hlt u ((List.mem_cons.1 hu).resolve_left e1);omega
  ·simp only[if_neg e1,if_neg e2]at e;exact h.inj u ((List.mem_cons.1 hu).resolve_left e1) z ((List.mem_cons.1 hz).resolve_left e2) e
 ·by_cases e1:u=v
  ·simp only[if_pos e1]at e;obtain⟨_,cur,hc⟩:=bK (h.sr.row y.2 (List.mem_map.2 ⟨y,hy,rfl⟩)) e;have:=lt_of_block hc;omega
  ·simp only[if_neg e1]at e;exact h.apt y hy u ((List.mem_cons.1 hu).resolve_left e1) e
theorem ke.set_lab(h:ke l n0 x ba bn bp sv D E G P la lp rows q W){v:BA}(hv:v∈E)(s:BA):ke l n0 x ba bn bp sv D E G (fun u=>if u=v then s else P u) la lp rows q (W.setCell ⟨q v,0,none⟩ (.string s))∧W.grownBy (W.setCell ⟨q v,0,none⟩ (.string s)) (some (q v)):=by
 have hg:W.grownBy (W.setCell ⟨q v,0,none⟩ (.string s)) (some (q v)):=⟨rfl,rfl,rfl,by simp,fun k _ hne=>Below.heap_setCell W ⟨q v,0,none⟩ _ k (fun e=>hne (by rw[e]))⟩;obtain⟨c1,c2⟩:=h.cell v hv;have nm:∀ {b:Nat},(∃es c,W.heap[b]? =some (.map es c))→some b≠some (q v):=fun hb e=>by
  obtain⟨es,c,hb⟩:=hb;cases e;rw[c2]at hb;cases hb
 have hset:(W.setCell ⟨q v,0,none⟩ (.string s)).heap[q v]? =some (.cells #[.string s] 9 (0,0)):=by
  rw[Sort.setCell_eq];simp[Sort.mapBlock,Array.getElem?_modify,c2,Sort.onCells]
 refine⟨⟨(hg.block x (lt_of_block h.box) (fun e=>?_)).trans h.box,h.mat.kept hg (nm (aC h.mat)),h.mnb.kept hg (nm (aC h.mnb)),h.mpt.kept hg (nm (aC h.mpt)),h.rr,h.sr.kept hg (fun y hy b hb e=>?_),h.pts,h.labs,fun u hu=>⟨(h.cell u hu).1,?_⟩,h.inj,h.apt,h.dis⟩,hg⟩
 ·have:=Option.some.inj e;rw[←this,h.box]at c2;cases c2
 ·obtain⟨z,hz,rfl⟩:=List.mem_map.1 hy;rw[←e]at hb;exact h.apt z hz v hv hb
 ·by_cases e:u=v
  ·simp only[if_pos e];rw[e];exact hset
  ·simp only[if_neg e];exact(hg.block _ (lt_of_block (h.cell u hu).2) (fun g=>e (h.inj u hu v hv (Option.some.inj g)))).trans (h.cell u hu).2
end
structure JB(n0 ba bn bp:Nat)(w W:World):Prop where
 os:W.os=w.os
 tape:W.tape=w.tape
 output:W.output=w.output
 size:w.heap.size≤W.heap.size
 keep:∀b,b<n0→b≠ba→b≠bn→b≠bp→W.heap[b]? =w.heap[b]?
theorem JB.refl(n0 ba bn bp:Nat)(w:World):JB n0 ba bn bp w w:=⟨rfl,rfl,rfl,Nat.le_refl _,fun _ _ _ _ _=>rfl⟩
theorem JB.trans{n0 ba bn bp:Nat}{a b c:World}(h:JB n0 ba bn bp a b)(k:JB n0 ba bn bp b c):JB n0 ba bn bp a c:=⟨k.os.trans h.os,k.tape.trans h.tape,k.output.trans h.output,Nat.le_trans h.size k.size,fun g h1 h3 h4 h5=>(k.keep g h1 h3 h4 h5).trans (h.keep g h1 h3 h4 h5)⟩
theorem JB.step{n0 ba bn bp:Nat}{w W W':World}(h:JB n0 ba bn bp w W)(hn:n0≤w.heap.size){row:Option Nat}(hg:W.grownBy W' row)(hr:∀r,row=some r→r=ba∨r=bn∨r=bp∨n0≤r):JB n0 ba bn bp w W':=by
 refine⟨hg.os.trans h.os,hg.tape.trans h.tape,hg.output.trans h.output,Nat.le_trans h.size hg.size,fun b h1 h3 h4 h5=>?_⟩;refine(hg.block b (Nat.lt_of_lt_of_le h1 (Nat.le_trans hn h.size)) (fun e=>?_)).trans (h.keep b h1 h3 h4 h5);rcases hr b e.symm with g|g|g|g
 ·exact h3 g
 ·exact h4 g
 ·exact h5 g
 ·omega
theorem JB.lift{n0 ba bn bp:Nat}{w W W':World}(h:JB n0 ba bn bp w W)(hn:n0≤w.heap.size)(hb:Below W.heap.size W W'):JB n0 ba bn bp w W':=h.step hn (aI hb) (by simp)
theorem JB.below{n0 ba bn bp m:Nat}{w W:World}(h:JB n0 ba bn bp w W)(h0:m≤n0)(h1:m≤ba)(h2:m≤bn)(h3:m≤bp):Below m w W:=⟨h.os,h.tape,h.output,h.size,fun b hb=>h.keep b O9 O9 O9 O9⟩
end Go.Proofs.YtfkgjbdeicggaaaGreat
namespace Go.Proofs.YtfkgjbdeicggaaaGreat
open Go.RowKit Go.Proofs.Px Go.Proofs.Pn Go.Proofs.Pm Go.Proofs.Pg Go.Proofs.Pto
def cI:List BA→List BA→Int
 | [],[]=>0
 | [],_::_=> -1
 |_::_,[]=>1
 |a::l,b::m=>if fS a b=0 then cI l m else fS a b
theorem mO(a b:BA)(l m:List BA):cI (a::l) (b::m)=if fS a b=0 then cI l m else fS a b:=rfl
theorem C5(a:BA):fS a a=0:=(fO a a).2 rfl
theorem Fx(a b:BA):0<fS a b↔fS b a<0:=by
 unfold fS;cases h1:fK a b with
 |true=>
  have h2:fK b a=false:=(gE h1).1;rw[h2];simp
 |false=>cases h2:fK b a<;>simp
theorem zA(l m:List BA):cI l m=0↔l=m:=by
 induction l generalizing m with
 |nil=>cases m<;>simp[cI]
 |cons a l ih=>
  cases m with
  |nil=>simp[cI]
  |cons b m=>
   rw[mO];by_cases h:fS a b=0
   ·rw[if_pos h,ih,(fO a b).1 h];simp
   ·rw[if_neg h];have:a≠b:=fun e=>h ((fO a b).2 e);simp[h,this]
theorem pz{l m k:List BA}(h1:cI l m<0)(h2:cI m k<0):cI l k<0:=by
 induction l generalizing m k with
 |nil=>cases k with
  |nil=>cases m<;>simp[cI]at h1 h2
  |cons c k=>simp[cI]
 |cons a l ih=>
  cases m with
  |nil=>simp[cI]at h1
  |cons b m=>
   cases k with
   |nil=>simp[cI]at h2
   |cons c k=>
    rw[mO]at*;by_cases e1:fS a b=0
    ·rw[if_pos e1]at h1;obtain rfl:=(fO a b).1 e1;by_cases e2:fS a c=0
     ·rw[if_pos e2]at h2 ⊢;exact ih h1 h2
     ·rw[if_neg e2]at h2 ⊢;exact h2
    ·rw[if_neg e1]at h1;by_cases e2:fS b c=0
     ·obtain rfl:=(fO b c).1 e2;rw[if_neg e1];exact h1
     ·rw[if_neg e2]at h2;have h3:fS a c<0:=(nO a c).2 (dg ((nO a b).1 h1) ((nO b c).1 h2));rw[if_neg O9];exact h3
theorem C6{l m:List BA}(h:¬cI l m<0)(hne:l≠m):cI m l<0:=by
 induction l generalizing m with
 |nil=>cases m with
  |nil=>exact absurd rfl hne
  |cons b m=>simp[cI]at h
 |cons a l ih=>
  cases m with
  |nil=>simp[cI]
  |cons b m=>
   rw[mO]at*;by_cases e:fS a b=0
   ·rw[if_pos e]at h;obtain rfl:=(fO a b).1 e;rw[if_pos (C5 a)];exact ih h (fun e2=>hne (by rw[e2]))
   ·rw[if_neg e]at h;have h2:fS b a<0:=(Fx a b).1 O9;rw[if_neg O9];exact h2
theorem Jg{β:Type}(f:β→List BA):Sort.SWO (ltOf fun x y:β=>cI (f x) (f y)):=by
 refine⟨fun x=>?_,fun x y z h1 h2=>?_,fun x y z h1 h2=>?_⟩
 ·unfold ltOf;rw[decide_eq_false_iff_not];show ¬cI (f x) (f x)<0;rw[(zA _ _).2 rfl];omega
 ·unfold ltOf at*;rw[decide_eq_true_eq]at*;exact pz h1 h2
 ·unfold ltOf at*;rw[decide_eq_false_iff_not]at*;change ¬cI (f x) (f y)<0 at h1;change ¬cI (f y) (f z)<0 at h2;show ¬cI (f x) (f z)<0;intro h3;by_cases e:f y=f x
  ·rw[←e]at h3;exact h2 h3
  ·exact h2 (pz (C6 h1 (fun e2=>e e2.symm)) h3)
theorem zB(l m:List BA)(k:Nat)(h1:k<l.length)(h2:k<m.length):cI (l.drop k) (m.drop k)=if fS l[k] m[k]=0 then cI (l.drop (k+1)) (m.drop (k+1))else fS l[k] m[k]:=by
 rw[List.drop_eq_getElem_cons h1,List.drop_eq_getElem_cons h2];rfl
theorem kg(l m:List BA)(v u:Value)(w:World)(hv:ff w v l)(hu:ff w u m)(hl:l.length≤100000)(hm:m.length≤100000):Calls Tryz.prog 39 #[v,u] w fun e w'=>e= .returned (.int .i64 (cI l m))∧w=w':=by
 obtain⟨R,hR⟩:∃R,cI l m=R:=⟨_,rfl⟩;rw[hR];obtain⟨A,c,rfl,_,hA⟩:=hv;obtain⟨B,d,rfl,_,hB⟩:=hu;have HA:=aa hA;have HB:=aa hB;have HR:Hid (cI (l.drop 0) (m.drop 0)=R):=aa hR;clear hA hB hR;go_enter Tryz.func39,Tryz.ntmps39;go_wp2_with fail;go_loopw [11] (fun i wr=>∃(k:Nat),k≤l.length∧k≤m.length∧i= .int .i64 k∧wr=w∧Hid (cI (l.drop k) (m.drop k)=R)) (fun i _=>l.length-(intOf i).toNat)
 case atStart=>exact⟨0,Nat.zero_le _,Nat.zero_le _,rfl,rfl,HR⟩
 case round=>
  clear HR;obtain⟨k,hk,hk2,rfl,rfl,hr⟩:=hrel;by_cases hlt:k<l.length
  ·obtain⟨g,o,rfl,hg,hp⟩:=HA.out.resolve_left (by rintro rfl;simp at hlt);have c0:=hp k _ (List.getElem?_eq_getElem hlt);have k0:(0:Int)≤(k:Nat):=O9;have k1:((k:Nat):Int)<(l.length:Nat):=O9;by_cases hlt2:k<m.length
   ·obtain⟨g2,o2,rfl,hg2,hp2⟩:=HB.out.resolve_left (by rintro rfl;simp at hlt2);have c1:=hp2 k _ (List.getElem?_eq_getElem hlt2);have k2:((k:Nat):Int)<(m.length:Nat):=O9;have k3:¬(m.length:Nat)≤((k:Nat):Int):=O9;have hr2:=hr.out;rw[zB l m k hlt hlt2]at hr2;have HC:=aa (fun W=>(qT l[k] m[k] W).mono (fun _ _ h=>(⟨h.1,h.2.symm⟩:_∧_)));generalize l[k]=a at*;generalize m[k]=b at*;generalize fS a b=x at*;have HL:=aa (show k+1≤l.length by omega);have HL2:=aa (show k+1≤m.length by omega)
    have HMS:=aa (show l.length-(k+1)<l.length-k from by omega);by_cases hx:x=0
    ·subst hx;have HR2:=aa (show cI (l.drop (k+1)) (m.drop (k+1))=R by rw[←hr2];rfl);clear hr hr2 hp hp2 hk hk2;go_wp2_with (go_at_call 92;refine(HC.out _).mono ?_;rintro _ _ ⟨rfl,rfl⟩);refine⟨⟨k+1,HL.out,HL2.out,by go_num,trivial,HR2⟩,?_⟩;have:=HMS.out;simp[intOf];omega
    ·have e1:(x ==0)=false:=beq_eq_false_iff_ne.2 hx;(have e2:(x != 0)=true:=by rw[bne,e1];rfl);rw[if_neg hx]at hr2;subst hr2;clear hr hp hp2 hx hk hk2;go_wp2_with (go_at_call 92;refine(HC.out _).mono ?_;rintro _ _ ⟨rfl,rfl⟩);go_ret;exact⟨rfl,rfl⟩
   ·(obtain rfl:k=m.length:=by omega);have k3:((m.length:Nat):Int)≤(m.length:Nat):=O9;have hR2:R=1:=by
     have:=hr.out;rw[List.drop_eq_getElem_cons hlt,List.drop_length]at this;rw[←this];rfl
    clear hr;subst hR2;go_wp2_with fail;go_ret;exact⟨rfl,rfl⟩
  ·(obtain rfl:k=l.length:=by omega);have k1:¬((l.length:Nat):Int)<(l.length:Nat):=O9;by_cases hlt2:l.length<m.length
   ·(have k3:((l.length:Nat):Int)<(m.length:Nat):=by omega);have hR2:R= -1:=by
     have:=hr.out;rw[List.drop_eq_getElem_cons hlt2,List.drop_length]at this;rw[←this];rfl
    clear hr;subst hR2;go_wp2_with fail;go_ret;exact⟨rfl,rfl⟩
   ·(have e:m.length=l.length:=by omega);have k3:¬((l.length:Nat):Int)<(m.length:Nat):=O9;have hR2:R=0:=by
     have:=hr.out;rw[List.drop_length,List.drop_eq_nil_of_le O9]at this;rw[←this];rfl
    clear hr e;subst hR2;go_wp2_with fail;go_ret;exact⟨rfl,rfl⟩
def mq(W:World)(v:Value)(L:List BA):Prop:=∃g a b c,v= .slice (some ⟨g,0,none⟩) L.length c∧W.heap[g]? =some (.cells #[.string a,.string b] 87 (0,0))∧(L=[a,b]∨L=[a])∧L.length≤c
theorem mq.kept{W W':World}{v:Value}{L:List BA}{row:Option Nat}(h:mq W v L)(hg:W.grownBy W' row)(hr:∀r,row=some r→∀a b:BA,W.heap[r]? ≠some (.cells #[.string a,.string b] 87 (0,0))):mq W' v L:=by
 obtain⟨g,a,b,c,h1,h2,h3,h4⟩:=h;exact⟨g,a,b,c,h1,(hg.block g (lt_of_block h2) (fun e=>hr g e.symm a b h2)).trans h2,h3,h4⟩
theorem mq.fresh{W W':World}{v:Value}{L:List BA}{r:Nat}(h:mq W v L)(hg:W.grownBy W' (some r))(hr:W.heap.size≤r):mq W' v L:=by
 obtain⟨g,a,b,c,h1,h2,h3,h4⟩:=h;exact⟨g,a,b,c,h1,(hg.block g (lt_of_block h2) (fun e=>by have:=lt_of_block h2;have:=Option.some.inj e;omega)).trans h2,h3,h4⟩
theorem mq.sts{W:World}{v:Value}{L:List BA}(h:mq W v L):ff W v L:=by
 obtain⟨g,a,b,c,h1,h2,h3,h4⟩:=h;have e0:=cell_of_row W g 0 _ _ _ h2;have e1:=cell_of_row W g 1 _ _ _ h2;refine⟨_,c,h1,h4,.inr ⟨g,0,rfl,lt_of_block h2,fun i s hi=>?_⟩⟩;rcases h3 with rfl|rfl
 ·rcases i with _|_|i
  ·simp at hi;rw[←hi];exact e0
  ·simp at hi;rw[←hi];exact e1
  ·simp at hi
 ·rcases i with _|i
  ·simp at hi;rw[←hi];exact e0
  ·simp at hi
theorem mq.slice{W:World}{v:Value}{L:List BA}(h:mq W v L):∃A n c,v= .slice A n c:=by
 obtain⟨g,a,b,c,h1,_⟩:=h;exact⟨_,_,_,h1⟩
theorem mq.few{W:World}{v:Value}{L:List BA}(h:mq W v L):L.length≤2:=by
 obtain⟨g,a,b,c,_,_,h3,_⟩:=h;rcases h3 with rfl|rfl<;>simp
abbrev Vl:=Value×List BA
def kh(x:Vl):List Value:=[.string ⟨#[]⟩,.int .i64 2,x.1]
theorem Fy(x y:Vl)(w:World)(hx:mq w x.1 x.2)(hy:mq w y.1 y.2):Calls Tryz.prog 38 #[.agg (kh x).toArray,.agg (kh y).toArray] w fun e w'=>e= .returned (.int .i64 (cI x.2 y.2))∧aT w w':=by
 have hsx:=hx.sts;have hsy:=hy.sts;have hfx:=hx.few;have hfy:=hy.few;obtain⟨v,L⟩:=x;obtain⟨u,M⟩:=y;obtain⟨A1,n1,c1,rfl⟩:=hx.slice;obtain⟨A2,n2,c2,rfl⟩:=hy.slice;simp only at*;obtain⟨w2,hw2⟩:∃w2,(w.alloc (.cells (kh (.slice A1 n1 c1,L)).toArray 101)).alloc (.cells (kh (.slice A2 n2 c2,M)).toArray 101)=w2:=⟨_,rfl⟩;have HG:Hid (aT w w2):=aa (by rw[←hw2];exact((aT.refl _).alloc _).alloc _);have HC:=aa (kg L M _ _ w2 (hsx.below HG.out.below) (hsy.below HG.out.below) O9 O9);rw[←hw2]at HC HG
 unfold kh at HC HG ⊢;clear hw2 hsx hsy hx hy hfx hfy;generalize cI L M=R at*;go_enter Tryz.func38,Tryz.ntmps38;go_wp2_with fail;refine HC.out.mono ?_;rintro _ w3 ⟨rfl,rfl⟩;clear HC;go_wp2_with fail;go_ret;exact⟨rfl,HG.out⟩
theorem Fz(B:Nat)(l:List Vl)(v:Value)(W:World)(h:W.ownsRow B 101 3 v l.length (l.flatMap kh))(hix:∀x∈l,mq W x.1 x.2)(hlen:l.length≤1000000000):Calls Tryz.prog 37 #[v,.func (Fn.func 38) #[] #[]] W fun e w'=>e= .returned (.tuple #[])∧W.grownBy w' v.ownBlock:=by
 rcases h.2 with⟨rfl,h0⟩|⟨g,cap,cur,rfl,hB,hb,_⟩
 ·have hl:l=[]:=List.length_eq_zero_iff.1 h0;subst hl;refine(AnyF.slices_SortFunc_none Tryz.sortBad none 0 (.func (Fn.func 38) #[] #[]) W).mono ?_;rintro e w' ⟨rfl,rfl⟩;exact⟨rfl,⟨rfl,rfl,rfl,Nat.le_refl _,fun _ _ _=>rfl⟩⟩
 ·rcases l with _|⟨x0,l0⟩
  ·refine(AnyF.slices_SortFunc_none Tryz.sortBad _ _ (.func (Fn.func 38) #[] #[]) W).mono ?_;rintro e w' ⟨rfl,rfl⟩;exact⟨rfl,⟨rfl,rfl,rfl,Nat.le_refl _,fun _ _ _=>rfl⟩⟩
  obtain⟨l,hl⟩:∃l,x0::l0=l:=⟨_,rfl⟩;have hin:mq W x0.1 x0.2:=hix x0 (List.mem_cons_self ..);rw[hl]at h hix hlen ⊢;letI:Inhabited {x:Vl//mq W x.1 x.2}:=⟨⟨x0,hin⟩⟩;have hsz:=jK l hix;have hfl:(kv l hix).toList.flatMap (fun x: {x:Vl//mq W x.1 x.2}=>kh x.1)=l.flatMap kh:=by rw[iS,ft]
  rw[←hsz,←hfl]at h;obtain⟨hg,hH,hw⟩:=nL (enc:=fun x: {x:Vl//mq W x.1 x.2}=>kh x.1) (k:=3) (fun _=>rfl) (kv l hix) h;have eg:∀args w,(callFunc 38 args).run Tryz.prog w= .ok (.enter 38 args) w:=enters_of Tryz.func38 K9 rfl;have hno:∀r,some g=some r→∀a b:BA,W.heap[r]? ≠some (.cells #[.string a,.string b] 87 (0,0)):=fun r e a b hh=>by
   cases e;rw[hb]at hh;cases hh
  have hcon:=AnyQ.slices_SortFunc Tryz.sortBad 3 Tryz.isAgg101 Tryz.sizeOf101 (fun x: {x:Vl//mq W x.1 x.2}=>kh x.1) (fun _=>rfl)
   (fun x v hv=>by
    obtain⟨⟨v0,L⟩,hx⟩:=x;obtain⟨A,n,c,hx⟩:=hx.slice;simp only[kh,List.mem_cons,List.not_mem_nil,or_false]at hv;rcases hv with rfl|rfl|h3
    ·rfl
    ·rfl
    ·have h4:v=Value.slice A n c:=h3.trans hx;rw[h4];rfl)
   (fun x y=>cI x.1.2 y.1.2) (Jg fun x: {x:Vl//mq W x.1 x.2}=>x.1.2) 38 #[] g 0 cap (kv l hix) W eg
   (fun m os dk hdk x y=>Fy x.1 y.1 _ (x.2.kept (hw dk m os hdk).2 hno) (y.2.kept (hw dk m os hdk).2 hno)) hH hg (by rw[hsz];omega)
  rw[hsz]at hcon;refine hcon.mono ?_;rintro e w' ⟨rfl,d',n,os,hp,hs,rfl⟩;rw[←hsz]at hp hs;obtain⟨hd,hpm⟩:=lg hp;exact⟨rfl,(hw d' n os hd).2⟩
theorem xm(g:Nat)(a b:BA)(w:World)(h:w.heap[g]? =some (.cells #[.string a,.string b] 87 (0,0))):Calls Tryz.prog 36 #[.slice (some ⟨g,0,none⟩) 2 2] w fun e w'=>∃v L,e= .returned v∧mq w' v L∧w.grownBy w' (some g):=by
 have c0:=cell_of_row w g 0 _ _ _ h;have c1:=cell_of_row w g 1 _ _ _ h;have hcon:=Tryz.slices_Compact_string_cells g 0 2 2 (fun i=>if i=0 then a else b) w O9 (Nat.le_refl _) (fun i hi=>by
  rcases(show i=0∨i=1 by omega)with rfl|rfl
  ·exact c0
  ·exact c1) (fun j hj=>frozen_of_row w g (0+j) _ _ h)
 refine hcon.mono ?_;rintro e w' ⟨rfl,q,rfl⟩;have hc:(Lib.strsOf (fun i=>if i=0 then a else b) 2)=[a.data.toList,b.data.toList]:=rfl;rw[hc];have hone:∀(W:World)(i:Nat)(u:Value),W.grownBy (W.setCell ⟨g,i,none⟩ u) (some g):=fun W i u=>⟨rfl,rfl,rfl,by simp,fun k _ hne=>Below.heap_setCell W ⟨g,i,none⟩ u k (fun e=>hne (by rw[e]))⟩
 have hgb:∀(x y:Value),w.grownBy ((w.drewN q).setCells g 0 [x,y]) (some g):=fun x y=>bt (bt (show w.grownBy (w.drewN q) (some g)from⟨rfl,rfl,rfl,Nat.le_refl _,fun _ _ _=>rfl⟩) (hone (w.drewN q) 0 x)) (hone _ 1 y);have hblk:∀(x y:Value),((w.drewN q).setCells g 0 [x,y]).heap[g]? =some (.cells #[x,y] 87 (0,0)):=fun x y=>by
  show(((w.drewN q).setCell ⟨g,0,none⟩ x).setCell ⟨g,0+1,none⟩ y).heap[g]? =_;rw[Sort.setCell_eq,Sort.setCell_eq];simp[Sort.mapBlock,Array.getElem?_modify,h,Sort.onCells]
 by_cases e:a.data.toList=b.data.toList
 ·have h1:Lib.compact [a.data.toList,b.data.toList]=[a.data.toList]:=by
   simp[Lib.compact,Lib.compactUpTo,List.range,List.range.loop,Lib.keeps,e]
  rw[h1];refine⟨_,[a],rfl,⟨g,a,⟨#[]⟩,2,rfl,hblk _ _,.inr rfl,by simp⟩,hgb _ _⟩
 ·have h1:Lib.compact [a.data.toList,b.data.toList]=[a.data.toList,b.data.toList]:=by
   have e2:¬b.data.toList=a.data.toList:=fun e2=>e e2.symm;simp[Lib.compact,Lib.compactUpTo,List.range,List.range.loop,Lib.keeps,e2]
  rw[h1];refine⟨_,[a,b],rfl,⟨g,a,b,2,rfl,hblk _ _,.inl rfl,by simp⟩,hgb _ _⟩
end Go.Proofs.YtfkgjbdeicggaaaGreat
namespace Go.Proofs.YtfkgjbdeicggaaaGreat
open Go.RowKit Go.Proofs.Px Go.Proofs.Pn Go.Proofs.Pm Go.Proofs.Pg Go.Proofs.Pto Go.Proofs.Pf
attribute [local go_sem] Oper.semAt_some
theorem nS(a b:BA)(w:World):Calls Tryz.prog 103 #[.agg #[.string a,.string b]] w fun e w'=>e= .returned (.agg #[.string b,.string a])∧Below w.heap.size w w':=by
 go_enter Tryz.func103,Tryz.ntmps103;go_wp2;exact bodyPost_ret (v:=.agg #[.string b,.string a]) (by simp[results,Tryz.results103,go_sem]) rfl ⟨rfl,((Below.refl _ _).alloc (Nat.le_refl _) _).alloc (by simp) _⟩
theorem G7(g c:Nat)(u v:Value)(L M:List BA)(w:World)(hg:w.heap[g]? =some (.cells #[u,v] 39 (0,0)))(hu:ff w u L)(hv:ff w v M)(hl:L.length≤100000)(hm:M.length≤100000):Calls Tryz.prog 146 #[.slice (some ⟨g,0,none⟩) 2 c,.func (Fn.func 39) #[] #[]] w fun e w'=>e= .returned (if cI M L<0 then v else u)∧Below w.heap.size w w':=by
 have HC:=aa (kg M L v u w hv hu hm hl);obtain⟨R,hR⟩:∃R,R=if cI M L<0 then v else u:=⟨_,rfl⟩
 rw[←hR];have HR:=aa hR;clear hR;obtain⟨⟨c0,c1⟩,_⟩:=aW hg;have HG:=aa hg;clear hg;go_enter Tryz.func146,Tryz.ntmps146;go_wp2_with fail;go_loopw [5,6] (fun s i wr=>wr=w∧((i= .int .i64 1∧s=u)∨(i= .int .i64 2∧s=R))) (fun _ i _=>(2-intOf i).toNat)
 case atStart=>exact⟨rfl,.inl ⟨rfl,rfl⟩⟩
 case round=>
  obtain⟨rfl,⟨rfl,rfl⟩|⟨rfl,rfl⟩⟩:=hrel
  ·generalize cI M L=k at*;by_cases hk:k<0
   ·go_wp2_with fail;refine HC.out.mono ?_;rintro _ _ ⟨rfl,rfl⟩;go_wp2_with fail;refine⟨⟨by first|rfl|trivial,.inr ⟨by first|rfl|trivial,by rw[HR.out,if_pos O9]⟩⟩,?_⟩;simp[intOf]
   ·go_wp2_with fail;refine HC.out.mono ?_;rintro _ _ ⟨rfl,rfl⟩;go_wp2_with fail;refine⟨⟨by first|rfl|trivial,.inr ⟨by first|rfl|trivial,by rw[HR.out,if_neg O9]⟩⟩,?_⟩;simp[intOf]
  ·go_wp2_with fail;go_ret;exact⟨rfl,Below.refl _ _⟩
end Go.Proofs.YtfkgjbdeicggaaaGreat
namespace Go.Proofs
open Go.Shelf
def Tryz.sortStrs_ren:Go.Shelf.Ren:=⟨fun|6=>94|15=>91|14=>144|28=>141|29=>142|20=>204|21=>205|22=>206|23=>207|24=>208|25=>209|26=>210|27=>211|46=>240|47=>200|48=>201|49=>241|50=>242|57=>260|n=>n,fun|22=>39|24=>9|25=>177|3=>3|39=>176|0=>0|53=>233|55=>235|4=>4|46=>227|45=>226|50=>123|5=>5|9=>9|66=>273|70=>277|76=>302|77=>35|n=>n,fun|n=>n⟩
theorem Tryz.sortStrs:Go.Proofs.SlLaysF.n6 Tryz.prog Tryz.sortStrs_ren:= {
 mixed:=K9
 f6:=⟨Tryz.f94.name,by decide,Tryz.func94.trans (congrArg some K9)⟩
 f14:=⟨Tryz.f144.name,by decide,Tryz.func144.trans (congrArg some K9)⟩
 f15:=Tryz.func91.trans (congrArg some K9)
 f20:=⟨Tryz.f204.name,by decide,Tryz.func204.trans (congrArg some K9)⟩
 f21:=⟨Tryz.f205.name,by decide,Tryz.func205.trans (congrArg some K9)⟩
 f22:=⟨Tryz.f206.name,by decide,Tryz.func206.trans (congrArg some K9)⟩
 f23:=⟨Tryz.f207.name,by decide,Tryz.func207.trans (congrArg some K9)⟩
 f24:=⟨Tryz.f208.name,by decide,Tryz.func208.trans (congrArg some K9)⟩
 f25:=⟨Tryz.f209.name,by decide,Tryz.func209.trans (congrArg some K9)⟩
 f26:=⟨Tryz.f210.name,by decide,Tryz.func210.trans (congrArg some K9)⟩
 f27:=⟨Tryz.f211.name,by decide,Tryz.func211.trans (congrArg some K9)⟩
 f28:=Tryz.func141.trans (congrArg some K9)
 f29:=Tryz.func142.trans (congrArg some K9)
 f46:=⟨Tryz.f240.name,by decide,Tryz.func240.trans (congrArg some K9)⟩
 f47:=Tryz.func200.trans (congrArg some K9)
 f48:=Tryz.func201.trans (congrArg some K9)
 f49:=⟨Tryz.f241.name,by decide,Tryz.func241.trans (congrArg some K9)⟩
 f50:=⟨Tryz.f242.name,by decide,Tryz.func242.trans (congrArg some K9)⟩
 f57:=⟨Tryz.f260.name,by decide,Tryz.func260.trans (congrArg some K9)⟩
 t0:=Tryz.underlying0
 a0:=Tryz.isAgg0
 z0:=Tryz.sizeOf0
 v0:=Tryz.zeroValue0
 t3:=Tryz.underlying3
 a3:=Tryz.isAgg3
 z3:=Tryz.sizeOf3
 v3:=Tryz.zeroValue3
 t4:=Tryz.underlying4
 a4:=Tryz.isAgg4
 z4:=Tryz.sizeOf4
 v4:=Tryz.zeroValue4
 t5:=Tryz.underlying5
 a5:=Tryz.isAgg5
 z5:=Tryz.sizeOf5
 v5:=Tryz.zeroValue5
 t9:=Tryz.underlying9
 a9:=Tryz.isAgg9
 z9:=Tryz.sizeOf9
 v9:=Tryz.zeroValue9
 t22:=Tryz.underlying39
 a22:=Tryz.isAgg39
 z22:=Tryz.sizeOf39
 v22:=Tryz.zeroValue39
 a24:=Tryz.isAgg9
 z24:=Tryz.sizeOf9
 t25:=Tryz.underlying177
 a25:=Tryz.isAgg177
 z25:=Tryz.sizeOf177
 v25:=Tryz.zeroValue177
 t39:=Tryz.underlying176
 a39:=Tryz.isAgg176
 z39:=Tryz.sizeOf176
 v39:=Tryz.zeroValue176
 t45:=Tryz.underlying226
 a45:=Tryz.isAgg226
 z45:=Tryz.sizeOf226
 v45:=Tryz.zeroValue226
 t46:=Tryz.underlying227
 a46:=Tryz.isAgg227
 z46:=Tryz.sizeOf227
 v46:=Tryz.zeroValue227
 t50:=Tryz.underlying123
 a50:=Tryz.isAgg123
 z50:=Tryz.sizeOf123
 v50:=Tryz.zeroValue123
 t53:=Tryz.underlying233
 a53:=Tryz.isAgg233
 z53:=Tryz.sizeOf233
 v53:=Tryz.zeroValue233
 t55:=Tryz.underlying235
 a55:=Tryz.isAgg235
 z55:=Tryz.sizeOf235
 v55:=Tryz.zeroValue235
 t66:=Tryz.underlying273
 a66:=Tryz.isAgg273
 z66:=Tryz.sizeOf273
 v66:=Tryz.zeroValue273
 t70:=Tryz.underlying277
 a70:=Tryz.isAgg277
 z70:=Tryz.sizeOf277
 v70:=Tryz.zeroValue277
 t76:=Tryz.underlying302
 a76:=Tryz.isAgg302
 z76:=Tryz.sizeOf302
 v76:=Tryz.zeroValue302
 t77:=Tryz.underlying35
 a77:=Tryz.isAgg35
 z77:=Tryz.sizeOf35
 v77:=Tryz.zeroValue35}
def Tryz.sortRows_ren:Go.Shelf.Ren:=⟨fun|6=>101|15=>91|14=>148|28=>141|29=>142|20=>213|21=>214|22=>215|23=>216|24=>217|25=>218|26=>219|27=>220|46=>243|47=>200|48=>201|49=>244|50=>245|57=>261|n=>n,fun|22=>40|24=>39|25=>103|3=>3|39=>176|0=>0|53=>233|55=>235|4=>4|46=>227|45=>226|50=>123|5=>5|9=>9|66=>273|70=>277|76=>302|77=>35|n=>n,fun|n=>n⟩
theorem Tryz.sortRows:Go.Proofs.SlLaysF.n6 Tryz.prog Tryz.sortRows_ren:= {
 mixed:=K9
 f6:=⟨Tryz.f101.name,by decide,Tryz.func101.trans (congrArg some K9)⟩
 f14:=⟨Tryz.f148.name,by decide,Tryz.func148.trans (congrArg some K9)⟩
 f15:=Tryz.func91.trans (congrArg some K9)
 f20:=⟨Tryz.f213.name,by decide,Tryz.func213.trans (congrArg some K9)⟩
 f21:=⟨Tryz.f214.name,by decide,Tryz.func214.trans (congrArg some K9)⟩
 f22:=⟨Tryz.f215.name,by decide,Tryz.func215.trans (congrArg some K9)⟩
 f23:=⟨Tryz.f216.name,by decide,Tryz.func216.trans (congrArg some K9)⟩
 f24:=⟨Tryz.f217.name,by decide,Tryz.func217.trans (congrArg some K9)⟩
 f25:=⟨Tryz.f218.name,by decide,Tryz.func218.trans (congrArg some K9)⟩
 f26:=⟨Tryz.f219.name,by decide,Tryz.func219.trans (congrArg some K9)⟩
 f27:=⟨Tryz.f220.name,by decide,Tryz.func220.trans (congrArg some K9)⟩
 f28:=Tryz.func141.trans (congrArg some K9)
 f29:=Tryz.func142.trans (congrArg some K9)
 f46:=⟨Tryz.f243.name,by decide,Tryz.func243.trans (congrArg some K9)⟩
 f47:=Tryz.func200.trans (congrArg some K9)
 f48:=Tryz.func201.trans (congrArg some K9)
 f49:=⟨Tryz.f244.name,by decide,Tryz.func244.trans (congrArg some K9)⟩
 f50:=⟨Tryz.f245.name,by decide,Tryz.func245.trans (congrArg some K9)⟩
 f57:=⟨Tryz.f261.name,by decide,Tryz.func261.trans (congrArg some K9)⟩
 t0:=Tryz.underlying0
 a0:=Tryz.isAgg0
 z0:=Tryz.sizeOf0
 v0:=Tryz.zeroValue0
 t3:=Tryz.underlying3
 a3:=Tryz.isAgg3
 z3:=Tryz.sizeOf3
 v3:=Tryz.zeroValue3
 t4:=Tryz.underlying4
 a4:=Tryz.isAgg4
 z4:=Tryz.sizeOf4
 v4:=Tryz.zeroValue4
 t5:=Tryz.underlying5
 a5:=Tryz.isAgg5
 z5:=Tryz.sizeOf5
 v5:=Tryz.zeroValue5
 t9:=Tryz.underlying9
 a9:=Tryz.isAgg9
 z9:=Tryz.sizeOf9
 v9:=Tryz.zeroValue9
 t22:=Tryz.underlying40
 a22:=Tryz.isAgg40
 z22:=Tryz.sizeOf40
 v22:=Tryz.zeroValue40
 a24:=Tryz.isAgg39
 z24:=Tryz.sizeOf39
 t25:=Tryz.underlying103
 a25:=Tryz.isAgg103
 z25:=Tryz.sizeOf103
 v25:=Tryz.zeroValue103
 t39:=Tryz.underlying176
 a39:=Tryz.isAgg176
 z39:=Tryz.sizeOf176
 v39:=Tryz.zeroValue176
 t45:=Tryz.underlying226
 a45:=Tryz.isAgg226
 z45:=Tryz.sizeOf226
 v45:=Tryz.zeroValue226
 t46:=Tryz.underlying227
 a46:=Tryz.isAgg227
 z46:=Tryz.sizeOf227
 v46:=Tryz.zeroValue227
 t50:=Tryz.underlying123
 a50:=Tryz.isAgg123
 z50:=Tryz.sizeOf123
 v50:=Tryz.zeroValue123
 t53:=Tryz.underlying233
 a53:=Tryz.isAgg233
 z53:=Tryz.sizeOf233
 v53:=Tryz.zeroValue233
 t55:=Tryz.underlying235
 a55:=Tryz.isAgg235
 z55:=Tryz.sizeOf235
 v55:=Tryz.zeroValue235
 t66:=Tryz.underlying273
 a66:=Tryz.isAgg273
 z66:=Tryz.sizeOf273
 v66:=Tryz.zeroValue273
 t70:=Tryz.underlying277
 a70:=Tryz.isAgg277
 z70:=Tryz.sizeOf277
 v70:=Tryz.zeroValue277
 t76:=Tryz.underlying302
 a76:=Tryz.isAgg302
 z76:=Tryz.sizeOf302
 v76:=Tryz.zeroValue302
 t77:=Tryz.underlying35
 a77:=Tryz.isAgg35
 z77:=Tryz.sizeOf35
 v77:=Tryz.zeroValue35}
def Tryz.growStrs_ren:Go.Shelf.Ren:=⟨fun|4=>212|n=>n,fun|22=>39|25=>9|3=>3|4=>4|9=>9|20=>20|0=>0|n=>n,fun|n=>n⟩
theorem Tryz.growStrs:Go.Proofs.Lays8.n4 Tryz.prog Tryz.growStrs_ren:= {
 mixed:=K9
 f4:=⟨Tryz.f212.name,by decide,Tryz.func212.trans (congrArg some K9)⟩
 t0:=Tryz.underlying0
 a0:=Tryz.isAgg0
 z0:=Tryz.sizeOf0
 v0:=Tryz.zeroValue0
 t3:=Tryz.underlying3
 a3:=Tryz.isAgg3
 z3:=Tryz.sizeOf3
 v3:=Tryz.zeroValue3
 t4:=Tryz.underlying4
 a4:=Tryz.isAgg4
 z4:=Tryz.sizeOf4
 v4:=Tryz.zeroValue4
 t9:=Tryz.underlying9
 a9:=Tryz.isAgg9
 z9:=Tryz.sizeOf9
 v9:=Tryz.zeroValue9
 t20:=Tryz.underlying20
 a20:=Tryz.isAgg20
 z20:=Tryz.sizeOf20
 v20:=Tryz.zeroValue20
 t22:=Tryz.underlying39
 a22:=Tryz.isAgg39
 z22:=Tryz.sizeOf39
 v22:=Tryz.zeroValue39}
