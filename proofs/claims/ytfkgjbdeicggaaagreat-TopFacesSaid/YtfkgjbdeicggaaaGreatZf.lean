/-
  The library's sorts of rows of one cell an element; directions compared; neighbours put in order.
-/
import Derived.Test.YtfkgjbdeicggaaaGreatZe
set_option maxHeartbeats 4000000
set_option maxRecDepth 100000
namespace Go.Proofs.YtfkgjbdeicggaaaGreat
open Go.RowKit Go.Proofs.Px Go.Proofs.Pn Go.Proofs.Pm Go.Proofs.Pg Go.Proofs.Pto Go.Proofs.Pf
attribute [local go_sem] Oper.semAt_some
section
variable {α:Type} [Inhabited α] {enc:α→Value}
theorem C8{W:World}{B g cap:Nat}{e:TypeId}(d:Array α)(h:W.ownsRow B e 1 (.slice (some ⟨g,0,none⟩) d.size cap) d.size (d.toList.map enc)):
  g<W.heap.size∧Sort.Holds enc W g 0 d∧∀(d':Array α)(n:Nat)(os:Array Obj),d'.size=d.size→(sortWorld enc W g 0 n d' os).ownsRow B e 1 (.slice (some ⟨g,0,none⟩) d.size cap) d.size (d'.toList.map enc)∧W.grownBy (sortWorld enc W g 0 n d' os) (some g):=by
 obtain⟨hl,h2⟩:=h;rcases h2 with⟨hv,_⟩|⟨g',cap',cur,hv,hB,hb,hc,hm,hs,ht⟩
 ·cases hv
 cases hv;rw[Nat.mul_one]at hs ht;have hg:g<W.heap.size:=(Array.getElem?_eq_some_iff.1 hb).1;have hle:d.size≤cur.size:=by rw[hs];omega
 refine⟨hg,?_,fun d' n os hdd=>⟨?_,?_⟩⟩
 ·intro j hj;refine⟨?_,by simp[World.frozen?,hb]⟩;have h1:(cur.toList.take d.size)[j]? =(d.toList.map enc)[j]? :=by rw[ht]
  rw[List.getElem?_take_of_lt hj,List.getElem?_map,Array.getElem?_toList,Array.getElem?_toList,Array.getElem?_eq_getElem (show j<d.size from hj)]at h1;simp only[World.cell?,hb,Nat.zero_add];simp only[Option.isSome_none,Bool.false_eq_true,if_false];rw[h1,getElem!_pos d j hj];rfl
 ·have hb2:(sortWorld enc W g 0 n d' os).heap[g]? =some (.cells (Sort.putCells enc 0 d' cur) e (0,0)):=by
   unfold sortWorld Sort.putRow;rw[Sort.heap_grow_old _ _ (by simpa[Sort.mapBlock,Sort.ahead]using hg)];simp[Sort.mapBlock,Sort.ahead,Array.getElem?_modify,hb,Sort.onCells]
  refine⟨by rw[List.length_map,Array.length_toList,hdd,Nat.mul_one],.inr ⟨g,cap,_,rfl,hB,hb2,hc,hm,by simp[Sort.putCells,hs],?_⟩⟩;rw[Nat.mul_one];apply List.ext_getElem?;intro j;by_cases hj:j<d.size
  ·rw[List.getElem?_take_of_lt hj,Array.getElem?_toList,List.getElem?_map,Array.getElem?_toList,Array.getElem?_eq_getElem (show j<d'.size by omega)];unfold Sort.putCells;rw[Array.getElem?_mapIdx,Array.getElem?_eq_getElem (show j<cur.size by omega)];simp only[Option.map_some];rw[if_pos ⟨Nat.zero_le _,O9⟩,Nat.sub_zero,getElem!_pos d' j O9]
  ·rw[List.getElem?_take_eq_none O9,List.getElem?_eq_none (by rw[List.length_map,Array.length_toList];omega)]
 ·refine⟨rfl,rfl,rfl,?_,fun i hi hne=>?_⟩
  ·unfold sortWorld Sort.putRow;simp[Sort.grow,Sort.mapBlock,Sort.ahead]
  ·unfold sortWorld Sort.putRow;rw[Sort.heap_grow_old _ _ (by simpa[Sort.mapBlock,Sort.ahead]using hi)];have:g≠i:=fun e=>hne (by rw[e]);simp[Sort.mapBlock,Sort.ahead,Array.getElem?_modify,this]
end
theorem xp{ρ:Shelf.Ren}(Lay:SlLaysF.n6 Tryz.prog ρ){β:Type}{ok:β→Prop}(enc:β→Value)(h1:∀x,ok x→(enc x).oneCell'=true)(cf:β→β→Int)(hO:Sort.SWO (ltOf fun x y: {x:β//ok x}=>cf x.1 y.1))(F:Nat)(cb:Array Value)
  (eg:∀args w,(callFunc F args).run Tryz.prog w= .ok (.enter F args) w){B:Nat}{e:TypeId}(l:List β)(hok:∀x∈l,ok x)(v:Value)(W:World)(h:W.ownsRow B e 1 v l.length (l.map enc))(hlen:l.length≤1000000000)
  (hcmp:∀x y,ok x→ok y→∀W',W.grownBy W' v.ownBlock→Calls Tryz.prog F (#[enc x,enc y]++cb) W' fun e w'=>e= .returned (.int .i64 (cf x y))∧aT W' w'):
  Calls Tryz.prog (ρ.f 6) #[v,.func (.func F) #[] cb] W fun e' w'=>e'= .returned (.tuple #[])∧∃l':List β,l'.Perm l∧l'.Pairwise (fun a b=>¬cf b a<0)∧w'.ownsRow B e 1 v l'.length (l'.map enc)∧W.grownBy w' v.ownBlock:=by
 rcases l with _|⟨x0,l0⟩
 ·have hv:∃p cap,v= .slice p 0 cap:=by
   rcases h.2 with⟨rfl,_⟩|⟨g,cap,_,rfl,_⟩
   ·exact⟨_,_,rfl⟩
   ·exact⟨_,_,rfl⟩
  obtain⟨p,cap,rfl⟩:=hv;refine(AnyF.slices_SortFunc_none { Lay with} p cap (.func (.func F) #[] cb) W).mono ?_;rintro e' w' ⟨rfl,rfl⟩;exact⟨rfl,[],List.Perm.refl _,List.Pairwise.nil,h,⟨rfl,rfl,rfl,Nat.le_refl _,fun _ _ _=>rfl⟩⟩
 ·obtain⟨l,hl⟩:∃l,x0::l0=l:=⟨_,rfl⟩;have hin:ok x0:=hok x0 (List.mem_cons_self ..);have hpos:0<l.length:=by rw[←hl];simp
  rw[hl]at h hok hlen ⊢;letI:Inhabited {x:β//ok x}:=⟨⟨x0,hin⟩⟩;obtain⟨g,cap,rfl⟩:∃g cap,v= .slice (some ⟨g,0,none⟩) l.length cap:=by
   rcases h.2 with⟨_,h0⟩|⟨g,cap,_,rfl,_⟩
   ·omega
   ·exact⟨g,cap,rfl⟩
  have hsz:=jK l hok;have hfl:(kv l hok).toList.map (fun x: {x:β//ok x}=>enc x.1)=l.map enc:=by
   rw[show(fun x: {x:β//ok x}=>enc x.1)=enc∘Subtype.val from rfl,←List.map_map,ft]
  rw[←hsz,←hfl]at h;obtain⟨hg,hH,hw⟩:=C8 (enc:=fun x: {x:β//ok x}=>enc x.1) (kv l hok) h;have hcon:=Any.slices_SortFunc Lay (fun x: {x:β//ok x}=>enc x.1) (fun x=>h1 x.1 x.2) (fun x y=>cf x.1 y.1) hO F cb g 0 cap (kv l hok) W eg
   (fun m os dk hdk x y=>hcmp x.1 y.1 x.2 y.2 _ (hw dk m os hdk).2) hH hg (by rw[hsz];omega)
  rw[hsz]at hcon;refine hcon.mono ?_;rintro e' w' ⟨rfl,d',n,os,hp,hs,rfl⟩;rw[←hsz]at hp hs;obtain⟨hd,hpm⟩:=lg hp;obtain⟨ho,hgr⟩:=hw d' n os hd;have hl':(d'.toList.map Subtype.val).length=l.length:=by rw[List.length_map,Array.length_toList,hd,hsz]
  refine⟨rfl,d'.toList.map Subtype.val,by rw[ft]at hpm;exact hpm,j6 (cf:=cf) hd hs,?_,hgr⟩;rw[hsz,show(fun x: {x:β//ok x}=>enc x.1)=enc∘Subtype.val from rfl,←List.map_map]at ho;rw[hl'];exact ho
def xq(w:World):Type:= {wx:World//aT w wx}
def xq.w{w:World}(d:xq w):World:=d.1
theorem xq.go{w:World}(d:xq w){w8:World}(hb:aT d.w w8):∃d':xq w,w8=d'.w:=⟨⟨w8,d.2.trans hb⟩,rfl⟩
def Ge(l:List Ob)(v a b:BA):Int:=E8 ((ar l a).x-(ar l v).x) ((ar l a).y-(ar l v).y) ((ar l b).x-(ar l v).x) ((ar l b).y-(ar l v).y)
theorem lY(l:List Ob)(v a b:BA):Ge l v a b<0↔kq (ar l v) (ar l a) (ar l b):=E9 _ _ _
theorem FE(l:List Ob)(w:World)(x ba bx bv:Nat)(b c d:Value)(la:List (BA×Value))(h:IJ l w x ba b c d la)(hm:aZ l=true)(v s t:BA)(hs:(v,s)∈an l)(ht:(v,t)∈an l)(hk:v.size≤maxLen∧s.size≤maxLen∧t.size≤maxLen)
  (hx:w.heap[bx]? =some (.cells #[.pointer (some ⟨x,0,none⟩)] 105 (0,0)))(hv:w.heap[bv]? =some (.cells #[.string v] 9 (0,0))):
  Calls Tryz.prog 95 #[.string s,.string t,.pointer (some ⟨bx,0,none⟩),.pointer (some ⟨bv,0,none⟩)] w fun e w'=>e= .returned (.int .i64 (Ge l v s t))∧aT w w':=by
 have g1:=ef hm hs;have g2:=ef hm (bI.2 hs);have g3:=ef hm (bI.2 ht);simp only[swp]at g1 g2 g3;have HT1:=aa (fun d:xq w=>pq l d.w x ba b c _ la (h.below d.2.below) hm (v,s) hs hk.1 hk.2.1);have HT2:=aa (fun d:xq w=>pq l d.w x ba b c _ la (h.below d.2.below) hm (v,t) ht hk.1 hk.2.2);simp only at HT1 HT2;have HC:=aa (fun d:xq w=>ud ((ar l s).x-(ar l v).x) ((ar l s).y-(ar l v).y) ((ar l t).x-(ar l v).x) ((ar l t).y-(ar l v).y) d.w O9 O9 O9 O9)
 have X1:∀d:xq w,d.w.cell? ⟨bx,0,none⟩=some (.pointer (some ⟨x,0,none⟩)):=fun d=>cell_of_row _ _ 0 _ _ _ (ai d.2.below hx);have X2:∀d:xq w,d.w.cell? ⟨bv,0,none⟩=some (.string v):=fun d=>cell_of_row _ _ 0 _ _ _ (ai d.2.below hv);have XN:Nonempty (xq w):=⟨⟨w,aT.refl w⟩⟩;obtain⟨R,hR⟩:∃R,R=Ge l v s t:=⟨_,rfl⟩;rw[←hR];change Hid (∀d:xq w,_)at HC;unfold Ge at hR;rw[←hR]at HC;clear hR g1 g2 g3 h hx hv;generalize ((ar l s).x-(ar l v).x)=x1 at*;generalize ((ar l s).y-(ar l v).y)=y1 at*
 generalize ((ar l t).x-(ar l v).x)=x2 at*;generalize ((ar l t).y-(ar l v).y)=y2 at*;go_enter Tryz.func95,Tryz.ntmps95;go_upto_region 1 with(fail);refine au (J:=xq w) xq.w ⟨_,(aT.refl w).drew⟩ rfl K9 K9 ?_
 repeat (go_big_quiet_step ((first|((with_reducible refine(HT1.out _).mono ?_);rintro _ w8 ⟨rfl,b8⟩;exact⟨rfl,xq.go _ b8⟩)|((with_reducible refine(HT2.out _).mono ?_);rintro _ w8 ⟨rfl,b8⟩;exact⟨rfl,xq.go _ b8⟩)|((with_reducible refine(HC.out _).mono ?_);rintro _ w8 ⟨rfl,b8⟩;exact⟨rfl,xq.go _ b8⟩))))
 refine wpQuiet_nil ?_;rintro w9 ⟨d9,rfl⟩;have HG:=aa d9.2;clear X1 X2 XN HT1 HT2 HC;change Hid (aT w d9.w)at HG;generalize d9.w=w9 at*;go_wp2_with fail;go_ret;exact⟨rfl,HG.out⟩
theorem JH(l:List Ob)(hm:aZ l=true)(hc:¬dA l)(v:BA):Sort.SWO (ltOf fun x y: {s:BA//(v,s)∈an l}=>Ge l v x.1 y.1):=by
 have tri:∀x y: {s:BA//(v,s)∈an l},¬Ge l v x.1 y.1<0→x.1≠y.1→kq (ar l v) (ar l y.1) (ar l x.1):=fun x y h hne=>by
  rw[lY]at h;exact Bj ((qH hm hc).cor _ (bT (bI.2 x.2)) _ (bT y.2) rfl (fun e=>hne ((eX hc y.2 x.2).2.1 e).symm)) h
 refine⟨fun x=>?_,fun x y z h1 h2=>?_,fun x y z h1 h2=>?_⟩
 ·unfold ltOf;rw[decide_eq_false_iff_not,lY];exact mH _ _
 ·unfold ltOf at*;rw[decide_eq_true_eq,lY]at*;exact sX h1 h2
 ·unfold ltOf at*;rw[decide_eq_false_iff_not]at*;change ¬Ge l v x.1 y.1<0 at h1;change ¬Ge l v y.1 z.1<0 at h2;show ¬Ge l v x.1 z.1<0;intro h3;by_cases e:x.1=y.1
  ·rw[e]at h3;exact h2 h3
  ·rw[lY]at h3;have h4:=tri x y h1 e;rw[lY]at h2;exact h2 (sX h4 h3)
theorem C9(l:List Ob)(hm:aZ l=true)(hc:¬dA l)(w:World)(x ba bx bv:Nat)(b c d:Value)(la:List (BA×Value))(h:IJ l w x ba b c d la)(hsz:∀s∈an l,s.1.size≤maxLen)(v:BA)(L:List BA)(hL:∀s∈L,(v,s)∈an l)(hlen:L.length≤1000)
  (hx:w.heap[bx]? =some (.cells #[.pointer (some ⟨x,0,none⟩)] 105 (0,0)))(hv:w.heap[bv]? =some (.cells #[.string v] 9 (0,0))){n0:Nat}(u:Value)(hu:w.ownsRow n0 9 1 u L.length (L.map .string))(hbv:u.ownBlock≠some bv):
  Calls Tryz.prog 94 #[u,.func (Fn.func 95) #[] #[.pointer (some ⟨bx,0,none⟩),.pointer (some ⟨bv,0,none⟩)]] w fun e w'=>e= .returned (.tuple #[])∧∃L':List BA,L'.Perm L∧L'.Pairwise (fun a b=>¬kq (ar l v) (ar l b) (ar l a))∧w'.ownsRow n0 9 1 u L'.length (L'.map .string)∧w.grownBy w' u.ownBlock:=by
 refine(xp Tryz.sortStrs (ok:=fun s=>(v,s)∈an l) Value.string (fun _ _=>rfl) (Ge l v) (JH l hm hc v) 95 #[.pointer (some ⟨bx,0,none⟩),.pointer (some ⟨bv,0,none⟩)] (enters_of Tryz.func95 K9 rfl) L hL u w hu O9 (fun s t hs ht W' hg=>?_)).mono ?_
 ·have hne:∀ {y:Nat}{cs:Array Value}{ty:TypeId},w.heap[y]? =some (.cells cs ty (0,0))→ty≠9→u.ownBlock≠some y:=fun hy ht e=>by
   obtain⟨_,cur,hcur⟩:=bK hu e;rw[hcur]at hy;cases hy;exact ht rfl
  exact FE l W' x ba bx bv b c d la ⟨fQ hg h.box (hne h.box (by decide)),h.mat.kept hg (fun e=>aH hu (aC h.mat) e.symm),h.pts⟩ hm v s t hs ht ⟨hsz _ hs,hsz _ (bI.2 hs),hsz _ (bI.2 ht)⟩ (fQ hg hx (hne hx (by decide))) (fQ hg hv hbv)
 ·rintro e w' ⟨rfl,L',h1,h2,h3,h4⟩;exact⟨rfl,L',h1,h2.imp (fun g1 g2=>g1 ((lY _ _ _ _).2 g2)),h3,h4⟩
end Go.Proofs.YtfkgjbdeicggaaaGreat
namespace Go.Proofs.YtfkgjbdeicggaaaGreat
open Go.RowKit Go.Proofs.Px Go.Proofs.Pn Go.Proofs.Pm Go.Proofs.Pg Go.Proofs.Pto Go.Proofs.Pf
section
variable {n0 ba bn bp:Nat} {w W:World}
def isMap(w:World)(b:Nat):Prop:=∃es c,w.heap[b]? =some (.map es c)
theorem JB.cell(h:JB n0 ba bn bp w W)(hn:w.heap.size≤n0)(m1:isMap w ba)(m2:isMap w bn)(m3:isMap w bp){g i:Nat}{v:Value}(hc:w.cell? ⟨g,i,none⟩=some v):W.cell? ⟨g,i,none⟩=some v:=by
 have hl:g<w.heap.size:=nI hc;have:=h.keep g O9 (jk hc m1) (jk hc m2) (jk hc m3);rw[←hc];exact World.cell?_of_block (a:=⟨g,i,none⟩) this
theorem JB.blk(h:JB n0 ba bn bp w W)(hn:w.heap.size≤n0)(m1:isMap w ba)(m2:isMap w bn)(m3:isMap w bp){g:Nat}{cs:Array Value}{t:TypeId}(hc:w.heap[g]? =some (.cells cs t (0,0))):W.heap[g]? =some (.cells cs t (0,0)):=by
 have hl:=lt_of_block hc;exact(h.keep g O9 (ki m1 hc) (ki m2 hc) (ki m3 hc)).trans hc
theorem JB.sts(h:JB n0 ba bn bp w W)(hn:w.heap.size≤n0)(m1:isMap w ba)(m2:isMap w bn)(m3:isMap w bp){v:Value}{L:List BA}(hs:ff w v L):ff W v L:=by
 obtain⟨A,c,rfl,hc,hA⟩:=hs;refine⟨A,c,rfl,hc,hA.imp id ?_⟩;rintro⟨g,o,rfl,hg,hp⟩;exact⟨g,o,rfl,Nat.lt_of_lt_of_le hg h.size,fun i s hi=>h.cell hn m1 m2 m3 (hp i s hi)⟩
theorem JB.sgs(h:JB n0 ba bn bp w W)(hn:w.heap.size≤n0)(m1:isMap w ba)(m2:isMap w bn)(m3:isMap w bp){v:Value}{L:List Sg}(hs:Bd w v L):Bd W v L:=by
 obtain⟨A,c,rfl,hA⟩:=hs;refine⟨A,c,rfl,hA.imp id ?_⟩;rintro⟨g,o,rfl,hg,hp⟩;refine⟨g,o,rfl,Nat.lt_of_lt_of_le hg h.size,fun i s hi=>?_⟩;obtain⟨h1,h2,h3,h4⟩:=hp i s hi;exact⟨h.cell hn m1 m2 m3 h1,h.cell hn m1 m2 m3 h2,h.cell hn m1 m2 m3 h3,h.cell hn m1 m2 m3 h4⟩
end
structure G8(w:World)(l:List Ob)(k:Nat)(ol:List (BA×Value)):Prop where
 val:∀s u,aJ ol s=some u→∃o rv tv,o∈l∧o.id=s∧u= .agg (eN o rv tv)∧ff w rv o.refs∧qO w tv o.tags
 has:∀o∈l.take k,∃u,aJ ol o.id=some u
 len:ol.length≤k
theorem G8.start(w:World)(l:List Ob):G8 w l 0 []:=⟨fun _ _ h=>(by cases h),fun _ h=>(by simp at h),Nat.le_refl _⟩
theorem G8.put{w:World}{l:List Ob}{k:Nat}{ol:List (BA×Value)}(h:G8 w l k ol){o:Ob}(ho:l[k]? =some o){rv tv:Value}(hr:ff w rv o.refs)(ht:qO w tv o.tags):G8 w l (k+1) (cR ol o.id (.agg (eN o rv tv))):=by
 refine⟨fun s u hu=>?_,fun x hx=>?_,?_⟩
 ·rw[cC]at hu;by_cases e:s=o.id
  ·rw[if_pos e]at hu;cases hu;exact⟨o,rv,tv,List.mem_of_getElem? ho,e.symm,rfl,hr,ht⟩
  ·rw[if_neg e]at hu;exact h.val s u hu
 ·rw[cC];by_cases e:x.id=o.id
  ·rw[if_pos e];exact⟨_,rfl⟩
  ·rw[if_neg e];rw[List.take_add_one,ho]at hx;rcases List.mem_append.1 hx with hx|hx
   ·exact h.has x hx
   ·simp at hx;rw[hx]at e;exact absurd rfl e
 ·rw[dF];have:=h.len;split<;>omega
theorem G8.find{w:World}{l:List Ob}(hu:uniq l){ol:List (BA×Value)}(h:G8 w l l.length ol){s:BA}{o:Ob}(ho:cA l s=some o):∃rv tv,aJ ol s=some (.agg (eN o rv tv))∧ff w rv o.refs∧qO w tv o.tags:=by
 obtain⟨h1,h2⟩:=db ho;obtain⟨u,h3⟩:=h.has o (by rw[List.take_length];exact h1);rw[h2]at h3;obtain⟨o',rv,tv,g1,g2,rfl,g3,g4⟩:=h.val s u h3;have:cA l o'.id=some o':=jz hu g1;rw[g2,ho]at this;obtain rfl:=Option.some.inj this;exact⟨rv,tv,h3,g3,g4⟩
theorem Bl(w:World):(zeroValue 47).run Tryz.prog w= .ok (.agg #[.string ⟨#[]⟩,.int .i64 0,.int .i64 0,.int .i64 0,.slice none 0 0,.slice none 0 0]) w:=K9
theorem FG{pre post:List (Rw BA)}{y:Rw BA}{G:BA→List BA}(h:bW (pre++y::post) G){L:List BA}(hL:L≠[]):bW (pre++(y.1,y.2.1,L)::post) (fun z=>if z=y.1 then L else G z):=by
 obtain⟨n1,n2,n3⟩:=List.pairwise_append.1 h.nd;obtain⟨n4,n5⟩:=List.pairwise_cons.1 n2;have hpre:∀z∈pre,z.1≠y.1:=fun z hz=>n3 z hz y (List.mem_cons_self ..);have hpost:∀z∈post,z.1≠y.1:=fun z hz he=>n4 z hz he.symm;have hsub:∀z,z∈pre++(y.1,y.2.1,L)::post→z=(y.1,y.2.1,L)∨(z∈pre++y::post∧z.1≠y.1):=fun z hz=>by
  rcases List.mem_append.1 hz with hz|hz
  ·exact .inr ⟨List.mem_append_left _ hz,hpre z hz⟩
  ·rcases List.mem_cons.1 hz with hz|hz
   ·exact .inl hz
   ·exact .inr ⟨List.mem_append_right _ (List.mem_cons_of_mem _ hz),hpost z hz⟩
 refine⟨?_,fun z hz=>?_,fun z hz=>?_,fun p hp=>?_⟩
 ·refine List.pairwise_append.2 ⟨n1,List.pairwise_cons.2 ⟨fun z hz=>(hpost z hz).symm,n5⟩,fun z hz z' hz'=>?_⟩;rcases List.mem_cons.1 hz' with rfl|hz'
  ·exact hpre z hz
  ·exact n3 z hz z' (List.mem_cons_of_mem _ hz')
 ·rcases hsub z hz with rfl|⟨h1,h2⟩
  ·simp
  ·rw[if_neg h2];exact h.val z h1
 ·rcases hsub z hz with rfl|⟨h1,h2⟩
  ·simpa using hL
  ·simp only[if_neg h2];exact h.ne z h1
 ·by_cases e:p=y.1
  ·exact⟨(y.1,y.2.1,L),List.mem_append_right _ (List.mem_cons_self ..),e.symm⟩
  ·simp only[if_neg e]at hp;obtain⟨z,hz,rfl⟩:=h.dom p hp;rcases List.mem_append.1 hz with hz|hz
   ·exact⟨z,List.mem_append_left _ hz,rfl⟩
   ·rcases List.mem_cons.1 hz with rfl|hz
    ·exact absurd rfl e
    ·exact⟨z,List.mem_append_right _ (List.mem_cons_of_mem _ hz),rfl⟩
theorem C'(pre post:List (Rw BA))(y:Rw BA)(L:List BA):keyed (pre++(y.1,y.2.1,L)::post)=keyed (pre++y::post):=by simp[keyed]
section
variable {l:List Ob} {n0 x ba bn bp:Nat} {sv:Value} {D E:List BA} {G:BA→List BA} {P:BA→BA} {la lp:List (BA×Value)} {q:BA→Nat} {W W':World}
theorem ke.resort{pre post:List (Rw BA)}{y:Rw BA}(h:ke l n0 x ba bn bp sv D E G P la lp (pre++y::post) q W){L:List BA}(hL:L≠[])(hg:W.grownBy W' y.2.1.ownBlock)(hr:W'.ownsRow n0 9 1 y.2.1 L.length (L.map .string)):ke l n0 x ba bn bp sv D E (fun z=>if z=y.1 then L else G z) P la lp (pre++(y.1,y.2.1,L)::post) q W':=by
 have hy:y∈pre++y::post:=List.mem_append_right _ (List.mem_cons_self ..);have hrow:=h.sr.row y.2 (List.mem_map.2 ⟨y,hy,rfl⟩);have hne:∀ {b:Nat},(∃es c,W.heap[b]? =some (.map es c))→y.2.1.ownBlock≠some b:=fun hb=>aH hrow hb;have hx0:y.2.1.ownBlock≠some x:=fun e=>by
  obtain⟨_,cur,hc⟩:=bK hrow e;rw[h.box]at hc;cases hc
 have hsr:=h.sr;rw[List.map_append,List.map_cons]at hsr;have hsr2:=hsr.grow (x':=(y.2.1,L)) hg (.inr rfl) hr (fun b hb=>.inl hb);refine⟨fQ hg h.box hx0,h.mat.kept hg (fun e=>hne (aC h.mat) e.symm),by rw[C'];exact h.mnb.kept hg (fun e=>hne (aC h.mnb) e.symm),h.mpt.kept hg (fun e=>hne (aC h.mpt) e.symm),FG h.rr hL,by rw[List.map_append,List.map_cons];exact hsr2,h.pts,h.labs,fun v hv=>⟨(h.cell v hv).1,fQ hg (h.cell v hv).2 (h.apt y hy v hv)⟩,h.inj,fun z hz v hv=>?_,h.dis⟩;rcases List.mem_append.1 hz with hz|hz
 ·exact h.apt z (List.mem_append_left _ hz) v hv
 ·rcases List.mem_cons.1 hz with rfl|hz
  ·exact h.apt y hy v hv
  ·exact h.apt z (List.mem_append_right _ (List.mem_cons_of_mem _ hz)) v hv
theorem ke.whole{rows:List (Rw BA)}(h:ke l n0 x ba bn bp sv D E G P la lp rows q W)(hD:∀v,v∈D↔v∈endsB (af l))(hE:∀v,v∈E↔v∈endsB (af l))(hG:∀v,(G v).Perm (dT (af l) v))(hlen:(af l).length≤400):Gd l G P W x ba bn bp sv la (keyed rows) lp:=by
 have hend:∀s∈an l,s.1∈endsB (af l):=fun s hs=>by
  obtain⟨p,hp,e,_⟩:=gH hs;exact iq.2 ⟨p,hp,e⟩
 have hall:∀v u,aJ (keyed rows) v=some u→ff W u (G v):=fun v u hu=>by
  rcases h.rr.look v with⟨_,h2⟩|⟨pre,y,post,rfl,hyv,hy2,_,h3⟩
  ·rw[h2]at hu;cases hu
  ·rw[h3]at hu;cases hu;have:=h.sr.row y.2 (List.mem_map.2 ⟨y,List.mem_append_right _ (List.mem_cons_self ..),rfl⟩);rw[hy2]at this;exact cT this rfl
 refine⟨h.box,h.mat,h.mnb,h.mpt,fun s hs=>h.pts s.1 ((hD _).2 (hend s hs)),fun s hs=>?_,hall,fun v=>?_,fun s hs=>?_⟩
 ·rcases h.rr.look s.1 with⟨h1,_⟩|⟨pre,y,post,rfl,_,_,_,h3⟩
  ·have:s.2∈dT (af l) s.1:=iW.2 hs;rw[←(hG s.1).mem_iff,h1]at this;cases this
  ·exact⟨_,h3,hall _ _ h3⟩
 ·rw[(hG v).length_eq];have:=q8 (af l) v;omega
 ·have hm:=(hE s.1).2 (hend s hs);exact⟨q s.1,by rw[h.labs,if_pos hm],(h.cell _ hm).2⟩
end
end Go.Proofs.YtfkgjbdeicggaaaGreat
namespace Go.Proofs.Pto
open Go
section
variable {P:Program} {ops:Array Oper} {Q:Exit→Act→World→Prop} {md:Region.Mode}
theorem rF{M:World→Prop}{z i:Nat}{p:Oper}{v:Value}(t:z≠i)(hi:ops[i]? =some p)(m:∀(j:Nat)(o:Oper) cs b,ops[j]? =some o→o.op≠ .select cs b)
  (G:∀c a w,Q (.panic c) (a.put p.dst v) w→Q (.panic c) a w):
  ∀(fuel:Nat)(d:Array Bool)(a:Act)(w:World),
   (∀j q,ops[j]? =some q→j≠i→d.getD j true=false→(∀e∈q.after,Region.binds md e=true→e.on≠i)→p.apart ops q=true)→
   i∈Region.ready md ops d→eC (fun _=>True) P ops p v a→
   cU M z P md ops Q fuel (d.setIfInBounds i true) (a.put p.dst v) w→cU M z P md ops Q (fuel+1) d a w:=by
 intro fuel;induction fuel with
 |zero=>
  intro d a w _ hr hy H;refine⟨fun h=>H.mem (by rw[getD_set_ne true (Ne.symm t)];exact h),fun h=>(by rw[h]at hr;cases hr),fun j hj=>?_⟩;by_cases f:j=i
  ·subst f;exact hy.wpOp hi trivial H
  ·have:=ready_mono hj f;rw[H.2.1]at this;cases this
 |succ fuel I=>
  intro d a w g hr hy H;refine⟨fun h=>H.mem (by rw[getD_set_ne true (Ne.symm t)];exact h),fun h=>(by rw[h]at hr;cases hr),fun j hj=>?_⟩;by_cases f:j=i
  ·subst f;exact hy.wpOp hi trivial H
  ·have r:=H.2.2 j (ready_mono hj f);obtain⟨n,q,s,u⟩:=mem_ready.1 hj;have x:∀e∈q.after,Region.binds md e=true→e.on≠i:=fun e he hb heq=>by
    have r:=u e he hb;have E:=(mem_ready.1 hr).1;rw[heq]at r;rcases Nat.lt_or_ge i d.size with B|B
    ·simp[B]at E r;rw[E]at r;cases r
    ·simp[Array.getElem?_eq_none B]at r
   have J:=sZ s (g j q s f n x) (fun cs b=>m i p cs b hi) (fun cs b=>m j q cs b s) G hy r;have l:∀k ok,ops[k]? =some ok→k≠i→(d.setIfInBounds j true).getD k true=false→(∀e∈ok.after,Region.binds md e=true→e.on≠i)→p.apart ops ok=true:=fun k ok K C y D=>by
    refine g k ok K C ?_ D;by_cases A:j=k
    ·subst A;exact n
    ·rw[getD_set_ne true A]at y;exact y
   refine wpOp_mono (fun L w' F=>I (d.setIfInBounds j true) L w' l (ready_mono hr (Ne.symm f)) F.1 ?_) J;rw[Array.setIfInBounds_comm _ _ f];exact F.2
theorem nU{M:World→Prop}{z:Nat}{i:Nat}{d:Oper}{v:Value}{fuel:Nat}{b:Array Bool}{a:Act}{w:World}(hi:ops[i]? =some d)
  (hs:Region.noSelect ops=true)(f:Region.free md ops b i=true)(hr:(Region.ready md ops b).contains i=true)
  (e:(!(z ==i))=true)(g:∀c a w,Q (.panic c) (a.put d.dst v) w→Q (.panic c) a w)(hy:eC (fun _=>True) P ops d v a)
  (h:cU M z P md ops Q fuel (b.setIfInBounds i true) (a.put d.dst v) w):cU M z P md ops Q (fuel+1) b a w:=by
 simp only[Bool.not_eq_true',beq_eq_false_iff_ne]at e;exact rF e hi (Region.noSelect_spec hs) g fuel b a w (Region.free_spec hi f) (by simpa using hr) hy h
end
