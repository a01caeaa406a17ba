/-
  A row of the call's own that the library sorts; the sweep's two sorts.
-/
import Derived.Test.YtfkgjbdeicggaaaGreatZO
import Derived.Shelf.SlSortCmp.NoneTotal
set_option maxHeartbeats 16000000
set_option maxRecDepth 100000
namespace Go.Proofs.YtfkgjbdeicggaaaGreat
open Go.RowKit Go.Proofs.Pg Go.Proofs.Pto
section
variable {α:Type} {enc:α→List Value} {k:Nat}
theorem wR(hk:∀x,(enc x).length=k)(l:List α):(l.flatMap enc).length=l.length*k:=by
 induction l with
 |nil=>simp
 |cons x l ih=>rw[List.flatMap_cons,List.length_append,ih,hk,List.length_cons,Nat.succ_mul];omega
theorem dK(hk:∀x,(enc x).length=k)(l:List α)(i j:Nat)(hj:j<k):(l.flatMap enc)[i*k+j]? =(l[i]?).bind (fun x=>(enc x)[j]?):=by
 induction l generalizing i with
 |nil=>simp
 |cons x l ih=>
  rw[List.flatMap_cons];cases i with
  |zero=>
   rw[Nat.zero_mul,Nat.zero_add,List.getElem?_append_left (by rw[hk];exact hj)];rfl
  |succ i=>
   rw[List.getElem?_append_right (by rw[hk,Nat.succ_mul];omega),hk,Nat.succ_mul,show i*k+k+j-k=i*k+j by omega,ih];simp
end
section
variable {α:Type} [Inhabited α] {enc:α→List Value} {k:Nat}
theorem wS(hk:∀x,(enc x).length=k)(d:Array α):Sort.flatK enc k d=(d.toList.flatMap enc).toArray:=by
 apply Array.ext_getElem?;intro t;rw[show((d.toList.flatMap enc).toArray)[t]? =(d.toList.flatMap enc)[t]? from by simp only[List.getElem?_toArray]];by_cases ht:t<d.size*k
 ·have hk0:0<k:=by
   rcases Nat.eq_zero_or_pos k with h|h
   ·subst h;omega
   ·exact h
  have hj:t%k<k:=Nat.mod_lt _ hk0;have hi:t/k<d.size:=by
   rw[Nat.div_lt_iff_lt_mul hk0];exact ht
  have e:t=(t/k)*k+t%k:=by rw[Nat.mul_comm];exact(Nat.div_add_mod t k).symm
  have h2:=dK hk d.toList (t/k) (t%k) hj;rw[←e]at h2;rw[h2,Array.getElem?_toList,Array.getElem?_eq_getElem hi];have h3:=Sort.get_flatK enc k d t ht;rw[getElem!_pos _ t (by simpa using ht),getElem!_pos d _ hi]at h3;rw[Array.getElem?_eq_getElem (by simpa using ht),h3];show _=(enc d[t/k])[t%k]?;rw[List.getElem?_eq_getElem (by rw[hk];exact hj),getElem!_pos]
 ·rw[Array.getElem?_eq_none (by rw[Sort.size_flatK];omega),List.getElem?_eq_none (by rw[wR hk,Array.length_toList];omega)]
theorem nL(hk:∀x,(enc x).length=k){W:World}{B g cap:Nat}{e:TypeId}(d:Array α)(h:W.ownsRow B e k (.slice (some ⟨g,0,none⟩) d.size cap) d.size (d.toList.flatMap enc)):
  g<W.heap.size∧Sort.HoldsK enc k W g 0 d∧∀(d':Array α)(n:Nat)(os:Array Obj),d'.size=d.size→(sortWorldK enc k W g 0 n d' os).ownsRow B e k (.slice (some ⟨g,0,none⟩) d.size cap) d.size (d'.toList.flatMap enc)∧W.grownBy (sortWorldK enc k W g 0 n d' os) (some g):=by
 obtain⟨hl,h2⟩:=h;rcases h2 with⟨hv,_⟩|⟨g',cap',cur,hv,hB,hb,hc,hm,hs,ht⟩
 ·cases hv
 cases hv;have hg:g<W.heap.size:=(Array.getElem?_eq_some_iff.1 hb).1;have hle:d.size*k≤cur.size:=by rw[hs];exact Nat.mul_le_mul_right k hc
 refine⟨hg,?_,fun d' n os hd=>⟨?_,?_⟩⟩
 ·unfold Sort.HoldsK;rw[wS hk];intro j hj;have hj2:j<d.size*k:=by rw[List.size_toArray,hl]at hj;exact hj
  refine⟨?_,by simp[World.frozen?,hb]⟩;have h1:(cur.toList.take (d.size*k))[j]? =(d.toList.flatMap enc)[j]? :=by rw[ht]
  rw[List.getElem?_take_of_lt hj2]at h1;simp only[World.cell?,hb,Nat.zero_add];simp only[Option.isSome_none,Bool.false_eq_true,if_false];rw[←Array.getElem?_toList,h1,List.getElem?_eq_getElem (by rw[hl];exact hj2)];rw[getElem!_pos _ j hj];rfl
 ·have hb2:(sortWorldK enc k W g 0 n d' os).heap[g]? =some (.cells (Sort.putCells id 0 (d'.toList.flatMap enc).toArray cur) e (0,0)):=by
   unfold sortWorldK Sort.putRowK;rw[wS hk,Sort.heap_grow_old _ _ (by simpa using hg)];simp[Sort.putRow,Sort.mapBlock,Sort.ahead,Array.getElem?_modify,hb,Sort.onCells]
  have hf:(d'.toList.flatMap enc).length=d.size*k:=by rw[wR hk,Array.length_toList,hd]
  refine⟨by rw[hf],.inr ⟨g,cap,_,rfl,hB,hb2,hc,hm,by simp[Sort.putCells,hs],?_⟩⟩;apply List.ext_getElem?;intro j;by_cases hj:j<d.size*k
  ·rw[List.getElem?_take_of_lt hj,Array.getElem?_toList,List.getElem?_eq_getElem (by rw[hf];exact hj)];unfold Sort.putCells;rw[Array.getElem?_mapIdx,Array.getElem?_eq_getElem (show j<cur.size by omega)];simp only[Option.map_some];rw[if_pos ⟨Nat.zero_le _,by rw[List.size_toArray,hf];omega⟩,Nat.sub_zero,getElem!_pos _ j (by rw[List.size_toArray,hf];exact hj)];rfl
  ·rw[List.getElem?_take_eq_none O9,List.getElem?_eq_none (by rw[hf];omega)]
 ·refine⟨rfl,rfl,rfl,?_,fun i hi hne=>?_⟩
  ·unfold sortWorldK Sort.putRowK;simp[Sort.grow,Sort.putRow,Sort.mapBlock,Sort.ahead]
  ·unfold sortWorldK Sort.putRowK;rw[Sort.heap_grow_old _ _ (by simpa using hi)];have:g≠i:=fun e=>hne (by rw[e]);simp[Sort.putRow,Sort.mapBlock,Sort.ahead,Array.getElem?_modify,this]
end
section
variable {β:Type} {ok:β→Prop}
def kv(l:List β)(h:∀x∈l,ok x):Array {x:β//ok x}:=(l.pmap Subtype.mk h).toArray
theorem ft(l:List β)(h:∀x∈l,ok x):(kv l h).toList.map Subtype.val=l:=by
 unfold kv;rw[List.map_pmap];simp
theorem jK(l:List β)(h:∀x∈l,ok x):(kv l h).size=l.length:=by
 have:=congrArg List.length (ft l h);rw[List.length_map,Array.length_toList]at this;exact this
theorem iS(enc:β→List Value)(d:Array {x:β//ok x}):d.toList.flatMap (fun x=>enc x.1)=(d.toList.map Subtype.val).flatMap enc:=by
 rw[List.flatMap_map]
end
section
variable {β:Type} {ok:β→Prop} [Inhabited {x:β//ok x}]
theorem lg{d d':Array {x:β//ok x}}(h:Sort.PermIn 0 d.size d d'):d'.size=d.size∧(d'.toList.map Subtype.val).Perm (d.toList.map Subtype.val):=by
 obtain⟨h1,_,h3⟩:=h;refine⟨h1,?_⟩;have e1:d'.extract 0 d.size=d':=by rw[←h1];simp
 have e2:d.extract 0 d.size=d:=by simp
 rw[e1,e2]at h3;exact h3.map _
theorem j6{d':Array {x:β//ok x}}{n:Nat}(hn:d'.size=n){cf:β→β→Int}(h:Sort.SortedIn (ltOf fun x y: {x:β//ok x}=>cf x.1 y.1) 0 n d'):(d'.toList.map Subtype.val).Pairwise (fun a b=>¬cf b a<0):=by
 rw[List.pairwise_map,List.pairwise_iff_getElem];intro i j hi hj hij;have:=h i j (Nat.zero_le _) hij (by rw[Array.length_toList]at hj;omega);rw[getElem!_pos d' j (by simpa using hj),getElem!_pos d' i (by simpa using hi)]at this;unfold ltOf at this;simpa using this
end
theorem uk(x y:It):H6 x y<0↔x.xl<y.xl∨(x.xl=y.xl∧x.ix<y.ix):=by
 unfold H6;rcases bN x.xl y.xl with⟨h1,h2⟩|⟨h1,h2⟩|⟨h1,h2⟩<;>rw[h2]<;>simp<;>omega
theorem um(x y:Mt):H7 x y<0↔BS x y:=by
 unfold H7 BS;split<;>omega
instance:Inhabited {i:It//i.ix≤1000000}:=⟨⟨⟨0,⟨⟨0,0⟩,⟨0,0⟩⟩⟩,Nat.zero_le _⟩⟩
instance:Inhabited {m:Mt//m.a≤1000000∧m.b≤1000000}:=⟨⟨⟨0,0,0⟩,Nat.zero_le _,Nat.zero_le _⟩⟩
theorem JE:Sort.SWO (ltOf fun x y: {i:It//i.ix≤1000000}=>H6 x.1 y.1):=by
 refine⟨fun x=>?_,fun x y z h1 h2=>?_,fun x y z h1 h2=>?_⟩
 ·unfold ltOf;rw[decide_eq_false_iff_not,uk];omega
 ·unfold ltOf at*;rw[decide_eq_true_eq,uk]at*;omega
 ·unfold ltOf at*;rw[decide_eq_false_iff_not,uk]at*;omega
theorem JF:Sort.SWO (ltOf fun x y: {m:Mt//m.a≤1000000∧m.b≤1000000}=>H7 x.1 y.1):=by
 refine⟨fun x=>?_,fun x y z h1 h2=>?_,fun x y z h1 h2=>?_⟩
 ·unfold ltOf;rw[decide_eq_false_iff_not,um];unfold BS;omega
 ·unfold ltOf at*;rw[decide_eq_true_eq,um]at*;unfold BS at*;omega
 ·unfold ltOf at*;rw[decide_eq_false_iff_not,um]at*;unfold BS at*;omega
theorem yZ(B:Nat)(l:List It)(v:Value)(W:World)(h:W.ownsRow B 135 9 v l.length (l.flatMap bB))(hix:∀i∈l,i.ix≤1000000)(hlen:l.length≤1000000):Calls Tryz.prog 60 #[v,.func (Fn.func 61) #[] #[]] W fun e w'=>e= .returned (.tuple #[])∧∃l':List It,l'.Perm l∧l'.Pairwise (fun a b=>¬H6 b a<0)∧w'.ownsRow B 135 9 v l'.length (l'.flatMap bB)∧W.grownBy w' v.ownBlock:=by
 rcases h.2 with⟨rfl,h0⟩|⟨g,cap,cur,rfl,hB,hb,_⟩
 ·have hl:l=[]:=List.length_eq_zero_iff.1 h0;subst hl;refine(AnyF.slices_SortFunc_none Tryz.sortItems none 0 (.func (Fn.func 61) #[] #[]) W).mono ?_;rintro e w' ⟨rfl,rfl⟩;exact⟨rfl,[],List.Perm.refl _,List.Pairwise.nil,h,⟨rfl,rfl,rfl,Nat.le_refl _,fun _ _ _=>rfl⟩⟩
 ·have hsz:=jK l hix;have hfl:(kv l hix).toList.flatMap (fun x: {i:It//i.ix≤1000000}=>bB x.1)=l.flatMap bB:=by rw[iS,ft]
  rw[←hsz,←hfl]at h;obtain⟨hg,hH,hw⟩:=nL (enc:=fun x: {i:It//i.ix≤1000000}=>bB x.1) (k:=9) (fun _=>rfl) (kv l hix) h;have eg:∀args w,(callFunc 61 args).run Tryz.prog w= .ok (.enter 61 args) w:=enters_of Tryz.func61 K9 rfl;have hcon:=AnyQ.slices_SortFunc Tryz.sortItems 9 Tryz.isAgg135 Tryz.sizeOf135 (fun x: {i:It//i.ix≤1000000}=>bB x.1) (fun _=>rfl)
   (fun x v hv=>by simp only[bB,List.mem_cons,List.not_mem_nil,or_false]at hv;rcases hv with rfl|rfl|rfl|rfl|rfl|rfl|rfl|rfl|rfl<;>rfl)
   (fun x y=>H6 x.1 y.1) JE 61 #[] g 0 cap (kv l hix) W eg (fun _ _ _ _ x y=>yP x.1 y.1 _ x.2 y.2) hH hg (by rw[hsz];omega)
  rw[hsz]at hcon;refine hcon.mono ?_;rintro e w' ⟨rfl,d',n,os,hp,hs,rfl⟩;rw[←hsz]at hp hs;obtain⟨hd,hpm⟩:=lg hp;obtain⟨ho,hgr⟩:=hw d' n os hd;have hl':(d'.toList.map Subtype.val).length=l.length:=by rw[List.length_map,Array.length_toList,hd,hsz]
  refine⟨rfl,d'.toList.map Subtype.val,by rw[ft]at hpm;exact hpm,j6 hd hs,?_,hgr⟩;rw[iS,hsz]at ho;rw[hl'];exact ho
theorem y7(B:Nat)(l:List Mt)(v:Value)(W:World)(h:W.ownsRow B 73 3 v l.length (l.flatMap fR))(hix:∀i∈l,i.a≤1000000∧i.b≤1000000)(hlen:l.length≤1000000000):Calls Tryz.prog 67 #[v,.func (Fn.func 68) #[] #[]] W fun e w'=>e= .returned (.tuple #[])∧∃l':List Mt,l'.Perm l∧l'.Pairwise (fun a b=>¬H7 b a<0)∧w'.ownsRow B 73 3 v l'.length (l'.flatMap fR)∧W.grownBy w' v.ownBlock:=by
 rcases h.2 with⟨rfl,h0⟩|⟨g,cap,cur,rfl,hB,hb,_⟩
 ·have hl:l=[]:=List.length_eq_zero_iff.1 h0;subst hl;refine(AnyF.slices_SortFunc_none Tryz.sortMeets none 0 (.func (Fn.func 68) #[] #[]) W).mono ?_;rintro e w' ⟨rfl,rfl⟩;exact⟨rfl,[],List.Perm.refl _,List.Pairwise.nil,h,⟨rfl,rfl,rfl,Nat.le_refl _,fun _ _ _=>rfl⟩⟩
 ·have hsz:=jK l hix;have hfl:(kv l hix).toList.flatMap (fun x: {m:Mt//m.a≤1000000∧m.b≤1000000}=>fR x.1)=l.flatMap fR:=by rw[iS,ft]
  rw[←hsz,←hfl]at h;obtain⟨hg,hH,hw⟩:=nL (enc:=fun x: {m:Mt//m.a≤1000000∧m.b≤1000000}=>fR x.1) (k:=3) (fun _=>rfl) (kv l hix) h;have eg:∀args w,(callFunc 68 args).run Tryz.prog w= .ok (.enter 68 args) w:=enters_of Tryz.func68 K9 rfl;have hcon:=AnyQ.slices_SortFunc Tryz.sortMeets 3 Tryz.isAgg73 Tryz.sizeOf73 (fun x: {m:Mt//m.a≤1000000∧m.b≤1000000}=>fR x.1) (fun _=>rfl)
   (fun x v hv=>by simp only[fR,List.mem_cons,List.not_mem_nil,or_false]at hv;rcases hv with rfl|rfl|rfl<;>rfl)
   (fun x y=>H7 x.1 y.1) JF 68 #[] g 0 cap (kv l hix) W eg (fun _ _ _ _ x y=>yQ x.1 y.1 _ x.2 y.2) hH hg (by rw[hsz];omega)
  rw[hsz]at hcon;refine hcon.mono ?_;rintro e w' ⟨rfl,d',n,os,hp,hs,rfl⟩;rw[←hsz]at hp hs;obtain⟨hd,hpm⟩:=lg hp;obtain⟨ho,hgr⟩:=hw d' n os hd;have hl':(d'.toList.map Subtype.val).length=l.length:=by rw[List.length_map,Array.length_toList,hd,hsz]
  refine⟨rfl,d'.toList.map Subtype.val,by rw[ft]at hpm;exact hpm,j6 hd hs,?_,hgr⟩;rw[iS,hsz]at ho;rw[hl'];exact ho
theorem wU{P:Program}(w:World)(t e ty:TypeId)(z:Value)(k:Nat)(ht:P.underlying t=some (.slice e))(hv:∀w,(zeroValue e).run P w= .ok z w)(hz:z.cells.size=k)(h1:∀u∈z.cells.toList,u.oneCell'=true)(b o n c:Nat)(hn:0<n)
  (hc:∀j,j<n*k→(w.cell? ⟨b,o+j,none⟩).isSome=true)(hf:∀j,j<n*k→w.frozen? ⟨b,o+j,none⟩=false):
  ∃F:List Value,F.length=n*k∧(Builtin.clear_ #[t] ty #[.slice (some ⟨b,o,none⟩) n c]).run P w= .ok (.tuple #[]) (w.setCells b o F):=by
 have hl:(Builtin.zeroCells z.cells n).toList.length=n*k:=by simp[Builtin.zeroCells,hz]
 have hst:=run_storeCells_cells (P:=P) b o (Builtin.zeroCells z.cells n).toList 0 w (by simpa[hl]using hc) (by simpa[hl]using hf) (by
  intro v hv';unfold Builtin.zeroCells at hv';rw[Array.toList_map,List.mem_map]at hv';obtain⟨i,hi,rfl⟩:=hv';have hi2:i<n*z.cells.size:=by simpa using hi
  have hp:0<z.cells.size:=by
   rcases Nat.eq_zero_or_pos z.cells.size with h|h
   ·rw[h]at hi2;omega
   ·exact h
  rw[getElem!_pos z.cells _ (Nat.mod_lt _ hp)];exact h1 _ (Array.getElem_mem_toList _))
 simp only[Nat.add_zero]at hst;obtain⟨m,rfl⟩:∃m,n=m+1:=⟨n-1,O9⟩;refine⟨_,hl,?_⟩;simp[Builtin.clear_,run_underlying ht,hv,hst]
theorem dL{W:World}{B g n cap k:Nat}{e:TypeId}{xs:List Value}(h:W.ownsRow B e k (.slice (some ⟨g,0,none⟩) n cap) n xs)(t:Nat)(u:Value):(W.setCell ⟨g,t,none⟩ u).ownsRow B e k (.slice (some ⟨g,0,none⟩) n cap) n (xs.set t u):=by
 obtain⟨hl,h2⟩:=h;rcases h2 with⟨hv,_⟩|⟨g',cap',cur,hv,hB,hb,hc,hm,hs,hx⟩
 ·cases hv
 cases hv;have hlt:g<W.heap.size:=(Array.getElem?_eq_some_iff.1 hb).1;have h':W.heap[g]= .cells cur e (0,0):=by simpa[Array.getElem?_eq_getElem hlt]using hb
 have hb2:(W.setCell ⟨g,t,none⟩ u).heap[g]? =some (.cells (cur.setIfInBounds t u) e (0,0)):=by
  show(W.heap.modify g _)[g]? =_;rw[Array.getElem?_eq_getElem (by simpa using hlt),Array.getElem_modify_self,h'];rfl
 refine⟨by rw[List.length_set,hl],.inr ⟨g,cap,_,rfl,hB,hb2,hc,hm,by rw[Array.size_setIfInBounds,hs],?_⟩⟩;rw[Array.toList_setIfInBounds,List.take_set,hx]
theorem dQ(w:World)(g j:Nat)(v:Value):w.grownBy (w.setCell ⟨g,j,none⟩ v) (some g):=
 ⟨rfl,rfl,rfl,by simp[World.setCell],fun i hi hr=>by
  have:g≠i:=fun e=>hr (by rw[e]);simp[World.setCell,Array.getElem?_modify,this]⟩
theorem ez{W:World}{B g n cap k:Nat}{e:TypeId}{xs:List Value}(h:W.ownsRow B e k (.slice (some ⟨g,0,none⟩) n cap) n xs)(t:Nat):W.frozen? ⟨g,t,none⟩=false:=by
 rcases h.2 with⟨hv,_⟩|⟨g',cap',cur,hv,hB,hb,_⟩
 ·cases hv
 ·cases hv;simp[World.frozen?,hb]
theorem bg{W:World}{B g n cap k:Nat}{e:TypeId}{xs:List Value}(h:W.ownsRow B e k (.slice (some ⟨g,0,none⟩) n cap) n xs)(t:Nat)(u:Value)(hu:xs[t]? =some u):W.cell? ⟨g,t,none⟩=some u:=by
 have:=World.ownsRow.cells h (g:=g) rfl t u hu;rw[show(⟨g,0,none⟩:Addr).add t=⟨g,t,none⟩from by simp only[Addr.add,Nat.zero_add];split<;>simp_all]at this;exact this
theorem gS{w w':World}{B:Nat}{e:TypeId}{sz:Nat}{v:Value}{n:Nat}{xs:List Value}(h:w.ownsRow B e sz v n xs)(hb:Below w.heap.size w w'):w'.ownsRow B e sz v n xs:=by
 obtain⟨h1,h2⟩:=h;refine⟨h1,?_⟩;rcases h2 with h2|⟨g,cap,cur,hv,hg,hh,rr⟩
 ·exact .inl h2
 ·exact .inr ⟨g,cap,cur,hv,hg,(hb.block g (Array.getElem?_eq_some_iff.1 hh).1).trans hh,rr⟩
theorem iT{W:World}{B g n cap:Nat}{l:List It}(h:W.ownsRow B 135 9 (.slice (some ⟨g,0,none⟩) n cap) n (l.flatMap bB)){i:Nat}{x:It}(hx:l[i]? =some x):
  W.cell? ⟨g,i*9,none⟩=some (.int .i64 (x.ix:Int))∧W.cell? ⟨g,i*9+1,none⟩=some (.int .i64 x.s.a.x)∧W.cell? ⟨g,i*9+2,none⟩=some (.int .i64 x.s.a.y)∧W.cell? ⟨g,i*9+3,none⟩=some (.int .i64 x.s.b.x)∧W.cell? ⟨g,i*9+4,none⟩=some (.int .i64 x.s.b.y)∧W.cell? ⟨g,i*9+5,none⟩=some (.int .i64 x.xl)∧W.cell? ⟨g,i*9+6,none⟩=some (.int .i64 x.xh)∧W.cell? ⟨g,i*9+7,none⟩=some (.int .i64 x.yl)∧W.cell? ⟨g,i*9+8,none⟩=some (.int .i64 x.yh):=by
 have key:∀j (u:Value),j<9→(bB x)[j]? =some u→W.cell? ⟨g,i*9+j,none⟩=some u:=fun j u hj hu=>bg h (i*9+j) u (by
  have:=dK (enc:=bB) (k:=9) (fun _=>rfl) l i j hj;rw[this,hx];exact hu)
 exact⟨key 0 _ O9 rfl,key 1 _ O9 rfl,key 2 _ O9 rfl,key 3 _ O9 rfl,key 4 _ O9 rfl,key 5 _ O9 rfl,key 6 _ O9 rfl,key 7 _ O9 rfl,key 8 _ O9 rfl⟩
def wV(W:World)(g i:Nat)(x:It):World:=((((((((W.setCell ⟨g,i*9,none⟩ (.int .i64 (x.ix:Int))).setCell ⟨g,i*9+1,none⟩ (.int .i64 x.s.a.x)).setCell ⟨g,i*9+2,none⟩ (.int .i64 x.s.a.y)).setCell ⟨g,i*9+3,none⟩ (.int .i64 x.s.b.x)).setCell ⟨g,i*9+4,none⟩ (.int .i64 x.s.b.y)).setCell ⟨g,i*9+5,none⟩ (.int .i64 x.xl)).setCell ⟨g,i*9+6,none⟩ (.int .i64 x.xh)).setCell ⟨g,i*9+7,none⟩ (.int .i64 x.yl)).setCell ⟨g,i*9+8,none⟩ (.int .i64 x.yh)
theorem Fh{l:List It}{i:Nat}(hi:i<l.length)(x:It):((((((((((l.flatMap bB).set (i*9) (.int .i64 (x.ix:Int))).set (i*9+1) (.int .i64 x.s.a.x)).set (i*9+2) (.int .i64 x.s.a.y)).set (i*9+3) (.int .i64 x.s.b.x)).set (i*9+4) (.int .i64 x.s.b.y)).set (i*9+5) (.int .i64 x.xl)).set (i*9+6) (.int .i64 x.xh)).set (i*9+7) (.int .i64 x.yl)).set (i*9+8) (.int .i64 x.yh))=(l.set i x).flatMap bB:=by
 induction l generalizing i with
 |nil=>simp at hi
 |cons y l ih=>
  cases i with
  |zero=>rfl
  |succ i=>
   have:=ih (i:=i) (by simpa using hi);rw[List.set_cons_succ,List.flatMap_cons,List.flatMap_cons,←this];simp only[Nat.succ_mul];rfl
theorem wW{W:World}{B g n cap:Nat}{l:List It}(h:W.ownsRow B 135 9 (.slice (some ⟨g,0,none⟩) n cap) n (l.flatMap bB)){i:Nat}(hi:i<l.length)(x:It):(wV W g i x).ownsRow B 135 9 (.slice (some ⟨g,0,none⟩) n cap) n ((l.set i x).flatMap bB)∧W.grownBy (wV W g i x) (some g):=by
 refine⟨?_,?_⟩
 ·rw[←Fh hi x];unfold wV;exact dL (dL (dL (dL (dL (dL (dL (dL (dL h _ _) _ _) _ _) _ _) _ _) _ _) _ _) _ _) _ _
 ·have tr:∀ {a b c:World}{row:Option Nat},a.grownBy b row→b.grownBy c row→a.grownBy c row:=fun h k=>⟨k.os.trans h.os,k.tape.trans h.tape,k.output.trans h.output,Nat.le_trans h.size k.size,fun i hi hr=>(k.block i (Nat.lt_of_lt_of_le hi h.size) hr).trans (h.block i hi hr)⟩;have g1:=fun(W:World) j v=>dQ W g j v;unfold wV;exact tr (tr (tr (tr (tr (tr (tr (tr (g1 _ _ _) (g1 _ _ _)) (g1 _ _ _)) (g1 _ _ _)) (g1 _ _ _)) (g1 _ _ _)) (g1 _ _ _)) (g1 _ _ _)) (g1 _ _ _)
def oS(a:It)(l:List It):Int:=match l.findIdx? (fun b=>decide (b.xh<a.xl))with|some k=>k|none=> -1
theorem Cv(a:It)(l:List It)(k:Nat)(h:∀b∈l.take k,¬b.xh<a.xl){x:It}(hx:l[k]? =some x)(hp:x.xh<a.xl):oS a l=k:=by
 have hf:l.findIdx? (fun b=>decide (b.xh<a.xl))=some k:=by
  rw[List.findIdx?_eq_some_iff_getElem];obtain⟨hk,e⟩:=List.getElem?_eq_some_iff.1 hx;refine⟨hk,by rw[e];exact decide_eq_true hp,fun j hj=>?_⟩;have hjl:j<l.length:=O9;have hm:l[j]∈l.take k:=by
   rw[List.mem_take_iff_getElem];exact⟨j,O9,rfl⟩
  have:=h _ hm;simpa using this
 unfold oS;rw[hf]
theorem Cw(a:It)(l:List It)(h:∀b∈l,¬b.xh<a.xl):oS a l= -1:=by
 have hf:l.findIdx? (fun b=>decide (b.xh<a.xl))=none:=by
  rw[List.findIdx?_eq_none_iff];intro x hx;exact decide_eq_false (h x hx)
 unfold oS;rw[hf]
def H'(a:It)(l:List It):Prop:=∀b∈l,¬b.xh<a.xl
theorem Cx(B gb n:Nat)(a:It)(l:List It)(v:Value)(W:World)(h:W.ownsRow B 135 9 v n (l.flatMap bB))(hn:n=l.length)(hl:l.length≤1000000)(hb:W.heap[gb]? =some (.cells (bB a).toArray 135 (0,0))):Calls Tryz.prog 119 #[v,.func (Fn.func 65) #[] #[.pointer (some ⟨gb,0,none⟩)]] W fun e w'=>e= .returned (.int .i64 (oS a l))∧aT W w':=by
 obtain⟨A,c,rfl⟩:∃A c,v= .slice A n c:=by
  rcases h.2 with⟨rfl,h0⟩|⟨g,cap,cur,rfl,_⟩
  ·exact⟨none,0,by rw[h0]⟩
  ·exact⟨_,_,rfl⟩
 obtain⟨V,hV⟩:∃V,oS a l=V:=⟨_,rfl⟩;rw[hV];have HV:=aa hV;have HR:=aa h;have HBK:=aa hb;have HN:=aa hn;have HGW:Hid (aT W W):=aT.refl W;clear hV h hb hn;go_enter Tryz.func119,Tryz.ntmps119;go_wp2_with fail;go_loopw [8] (fun i wr=>∃k:Nat,k≤n∧i= .int .i64 k∧Hid (H' a (l.take k))∧Hid (aT W wr)) (fun i _=>n-(intOf i).toNat)
 case atStart=>exact⟨0,Nat.zero_le _,rfl,aa (fun b hb=>by simp at hb),HGW⟩
 case round=>
  clear HGW;obtain⟨k,hk,rfl,hno,hgr⟩:=hrel;by_cases hlt:k<n
  ·(have hkl:k<l.length:=by rw[←HN.out];exact hlt);have hks:=List.getElem?_eq_getElem hkl;generalize l[k]=x at*;have hrow:=gS HR.out hgr.out.below;have hbk:wr.heap[gb]? =some (.cells (bB a).toArray 135 (0,0)):=(hgr.out.below.block gb (Array.getElem?_eq_some_iff.1 HBK.out).1).trans HBK.out;have HE:=aa (sK gb a x wr hbk);(have HTK:Hid (l.take (k+1)=l.take k++[x]):=by rw[List.take_add_one,hks];exact aa rfl);obtain⟨g,rfl⟩:∃g,A=some ⟨g,0,none⟩:=by
    rcases hrow.2 with⟨hv,h0⟩|⟨g,cap,cur,hv,_⟩
    ·omega
    ·cases hv;exact⟨g,rfl⟩
   have hcap:c≤c:=Nat.le_refl _;obtain⟨c0,c1,c2,c3,c4,c5,c6,c7,c8⟩:=iT hrow hks;have HNO:=aa hno.out;have HGR:=aa hgr.out;have HKS:=aa hks;have k0:(0:Int)≤(k:Int):=O9;have k1:(k:Int)<(n:Nat):=O9;have HLT:=aa hlt;(have HNL:Hid (n≤1000000):=by rw[HN.out];exact aa hl);clear hkl hks hrow hbk hno hgr hlt hk hl hcap;unfold bB at HE;by_cases hp:x.xh<a.xl
   ·(have HVE:Hid (V=(k:Int)):=by rw[←HV.out];exact aa (Cv a l k HNO.out HKS.out hp));rw[decide_eq_true hp]at HE;clear hp;go_wp2_with fail;refine HE.out.mono ?_;rintro _ w2 ⟨rfl,b2⟩;have HG2:=aa (HGR.out.trans b2);clear b2;go_wp2_with fail;go_ret;exact⟨cW HVE.out.symm,HG2.out⟩
   ·have HN2:Hid (H' a (l.take (k+1))):=aa (fun b hb=>by
     rw[HTK.out]at hb;rcases List.mem_append.1 hb with hb|hb
     ·exact HNO.out b hb
     ·rw[List.mem_singleton]at hb;subst hb;exact hp)
    rw[decide_eq_false hp]at HE;clear hp;go_wp2_with fail;refine HE.out.mono ?_;rintro _ w2 ⟨rfl,b2⟩;have HG2:=aa (HGR.out.trans b2);clear b2 c0 c1 c2 c3 c4 c5 c6 c7 c8;have hnl:n≤1000000:=HNL.out;have hlt2:k<n:=HLT.out;go_wp2_with fail;refine⟨⟨k+1,O9,by go_num,HN2,HG2⟩,?_⟩;simp[intOf];omega
  ·(have hkn:k=n:=by omega);have HVE:Hid (V= -1):=by
    rw[←HV.out];refine aa (Cw a l (fun b hb=>hno.out b ?_));rw[hkn,HN.out,List.take_length];exact hb
   have HG2:=aa hgr.out;have k1:¬(k:Int)<(n:Nat):=O9;clear hno hgr hkn;go_wp2_with fail;go_ret;exact⟨cW HVE.out.symm,HG2.out⟩
theorem Cy{W:World}{B g n cap k:Nat}{e:TypeId}{xs:List Value}(h:W.ownsRow B e k (.slice (some ⟨g,0,none⟩) n cap) n xs){m:Nat}(hm:m≤n):W.ownsRow B e k (.slice (some ⟨g,0,none⟩) m cap) m (xs.take (m*k)):=by
 obtain⟨hl,h2⟩:=h;rcases h2 with⟨hv,_⟩|⟨g',cap',cur,hv,hB,hb,hc,hx,hs,ht⟩
 ·cases hv
 cases hv;have hmk:m*k≤n*k:=Nat.mul_le_mul_right k hm;refine⟨by rw[List.length_take,hl];omega,.inr ⟨g,cap,cur,rfl,hB,hb,O9,hx,hs,?_⟩⟩;rw[←ht,List.take_take,Nat.min_eq_left hmk]
theorem Fi{B g n cap k:Nat}{e:TypeId}(F:List Value):∀ {W:World}{xs:List Value}(t m:Nat),m≤t→W.ownsRow B e k (.slice (some ⟨g,0,none⟩) n cap) n xs→∃xs',(W.setCells g t F).ownsRow B e k (.slice (some ⟨g,0,none⟩) n cap) n xs'∧xs'.take m=xs.take m∧W.grownBy (W.setCells g t F) (some g):=by
 induction F with
 |nil=>intro W xs t m _ h;exact⟨xs,h,rfl,⟨rfl,rfl,rfl,Nat.le_refl _,fun _ _ _=>rfl⟩⟩
 |cons u F ih=>
  intro W xs t m hm h;obtain⟨xs',h1,h2,h3⟩:=ih (t+1) m O9 (dL h t u);refine⟨xs',h1,?_,?_⟩
  ·rw[h2,List.take_set,List.set_eq_of_length_le (by rw[List.length_take];omega)]
  ·have g1:=dQ W g t u;exact⟨h3.os.trans g1.os,h3.tape.trans g1.tape,h3.output.trans g1.output,Nat.le_trans g1.size h3.size,fun i hi hr=>(h3.block i (Nat.lt_of_lt_of_le hi g1.size) hr).trans (g1.block i hi hr)⟩
theorem Cz(l:List It)(m:Nat):(l.flatMap bB).take (m*9)=(l.take m).flatMap bB:=by
 induction l generalizing m with
 |nil=>simp
 |cons x l ih=>
  cases m with
  |zero=>simp
  |succ m=>
   rw[List.take_succ_cons,List.flatMap_cons,List.flatMap_cons,←ih,Nat.succ_mul];rfl
theorem Fj{a:It}{l:List It}(h:oS a l= -1):eL a l=l:=by
 unfold oS at h;split at h
 ·omega
 ·rename_i hf;rw[List.findIdx?_eq_none_iff]at hf;unfold eL;rw[List.filter_eq_self];intro b hb;rw[hf b hb];rfl
theorem y8{a:It}{l:List It}{k:Nat}(h:oS a l=k):k<l.length∧(eL a (l.take (k+1)))=l.take k:=by
 unfold oS at h;split at h
 ·rename_i k' hf;obtain rfl:k'=k:=O9;rw[List.findIdx?_eq_some_iff_getElem]at hf;obtain⟨hk,hp,hno⟩:=hf;refine⟨hk,?_⟩;unfold eL;rw[List.take_add_one,List.getElem?_eq_getElem hk,List.filter_append];have e1:(l.take k').filter (fun b=> !decide (b.xh<a.xl))=l.take k':=by
   rw[List.filter_eq_self];intro b hb;rw[List.mem_take_iff_getElem]at hb;obtain⟨j,hj,rfl⟩:=hb;have:=hno j O9;simpa using this
  rw[e1];simp only[Option.toList_some,List.filter_cons,hp,List.filter_nil];simp
 ·omega
theorem y'(a:It)(l:List It):oS a l= -1∨∃k:Nat,oS a l=k:=by
 unfold oS;split
 ·rename_i k _;exact .inr ⟨k,rfl⟩
 ·exact .inl rfl
structure uq(B g n c ni nj:Nat)(a:It)(l:List It)(W W':World):Prop where
 out:∃M:List It,M.length=n∧M.take ni=eL a (l.take nj)∧M.drop nj=l.drop nj∧W'.ownsRow B 135 9 (.slice (some ⟨g,0,none⟩) n c) n (M.flatMap bB)
 grown:W.grownBy W' (some g)
theorem uq.step{B g n c ni nj:Nat}{a:It}{l:List It}{W W' W'':World}(h:uq B g n c ni nj a l W W')(hg:aT W' W''):uq B g n c ni nj a l W W'':=by
 obtain⟨M,h1,h2,h3,h4⟩:=h.out;have hb:=hg.below;exact⟨⟨M,h1,h2,h3,gS h4 hb⟩,⟨hb.os.trans h.grown.os,hb.tape.trans h.grown.tape,hb.output.trans h.grown.output,Nat.le_trans h.grown.size hb.size,fun i hi hr=>(hb.block i (Nat.lt_of_lt_of_le hi h.grown.size)).trans (h.grown.block i hi hr)⟩⟩
theorem uq.skip{B g n c ni nj:Nat}{a x:It}{l:List It}{W W':World}(h:uq B g n c ni nj a l W W')(hx:l[nj]? =some x)(hp:x.xh<a.xl):uq B g n c ni (nj+1) a l W W':=by
 obtain⟨M,h1,h2,h3,h4⟩:=h.out;refine⟨⟨M,h1,?_,?_,h4⟩,h.grown⟩
 ·rw[h2];unfold eL;rw[List.take_add_one,hx,List.filter_append];simp[hp]
 ·rw[←List.drop_drop,h3,List.drop_drop]
theorem uq.keep{B g n c ni nj:Nat}{a x:It}{l:List It}{W W':World}(h:uq B g n c ni nj a l W W')(hx:l[nj]? =some x)(hp:¬x.xh<a.xl)(hij:ni<nj)(hjn:nj<n):uq B g n c (ni+1) (nj+1) a l W (wV W' g ni x):=by
 obtain⟨M,h1,h2,h3,h4⟩:=h.out;obtain⟨p1,p2⟩:=wW h4 (i:=ni) O9 x;refine⟨⟨M.set ni x,by rw[List.length_set,h1],?_,?_,p1⟩,⟨p2.os.trans h.grown.os,p2.tape.trans h.grown.tape,p2.output.trans h.grown.output,Nat.le_trans h.grown.size p2.size,fun i hi hr=>(p2.block i (Nat.lt_of_lt_of_le hi h.grown.size) hr).trans (h.grown.block i hi hr)⟩⟩
 ·have e1:eL a (l.take (nj+1))=eL a (l.take nj)++[x]:=by
   unfold eL;rw[List.take_add_one,hx,List.filter_append];simp[hp]
  rw[e1,←h2,List.take_add_one,List.getElem?_set_self O9,List.take_set,List.set_eq_of_length_le (by rw[List.length_take];omega)];rfl
 ·rw[List.drop_set_of_lt O9,←List.drop_drop,h3,List.drop_drop]
theorem uq.item{B g n c ni nj:Nat}{a x:It}{l:List It}{W W':World}(h:uq B g n c ni nj a l W W')(hx:l[nj]? =some x):W'.cell? ⟨g,nj*9,none⟩=some (.int .i64 (x.ix:Int))∧W'.cell? ⟨g,nj*9+1,none⟩=some (.int .i64 x.s.a.x)∧W'.cell? ⟨g,nj*9+2,none⟩=some (.int .i64 x.s.a.y)∧W'.cell? ⟨g,nj*9+3,none⟩=some (.int .i64 x.s.b.x)∧W'.cell? ⟨g,nj*9+4,none⟩=some (.int .i64 x.s.b.y)∧W'.cell? ⟨g,nj*9+5,none⟩=some (.int .i64 x.xl)∧W'.cell? ⟨g,nj*9+6,none⟩=some (.int .i64 x.xh)∧W'.cell? ⟨g,nj*9+7,none⟩=some (.int .i64 x.yl)∧W'.cell? ⟨g,nj*9+8,none⟩=some (.int .i64 x.yh):=by
 obtain⟨M,h1,h2,h3,h4⟩:=h.out;have hM:M[nj]? =some x:=by
  have e1:(M.drop nj)[0]? =(l.drop nj)[0]? :=by rw[h3]
  rw[List.getElem?_drop,List.getElem?_drop,Nat.add_zero]at e1;rw[e1];exact hx
 exact iT h4 hM
theorem uq.frz{B g n c ni nj:Nat}{a:It}{l:List It}{W W':World}(h:uq B g n c ni nj a l W W')(t:Nat):W'.frozen? ⟨g,t,none⟩=false:=by
 obtain⟨M,h1,h2,h3,h4⟩:=h.out;exact ez h4 t
theorem uq.there{B g n c ni nj:Nat}{a:It}{l:List It}{W W':World}(h:uq B g n c ni nj a l W W')(t:Nat)(ht:t<n*9):∃u,W'.cell? ⟨g,t,none⟩=some u:=by
 obtain⟨M,h1,h2,h3,h4⟩:=h.out;have hl:=h4.1;exact⟨_,bg h4 t _ (List.getElem?_eq_getElem (by rw[hl];exact ht))⟩
theorem uq.fin{B g n c ni:Nat}{a:It}{l:List It}{W W':World}(h:uq B g n c ni n a l W W')(hn:n=l.length)(hni:ni≤n)(F:List Value):(W'.setCells g (ni*9) F).ownsRow B 135 9 (.slice (some ⟨g,0,none⟩) ni c) (eL a l).length ((eL a l).flatMap bB)∧W.grownBy (W'.setCells g (ni*9) F) (some g):=by
 obtain⟨M,h1,h2,h3,h4⟩:=h.out;obtain⟨xs',q1,q2,q3⟩:=Fi F (ni*9) (ni*9) (Nat.le_refl _) h4;have e1:=Cy q1 hni;rw[q2,Cz,h2,hn,List.take_length]at e1;have e2:(eL a l).length=ni:=by
  have:=congrArg List.length h2;rw[List.length_take,hn,List.take_length]at this;omega
 rw[e2];exact⟨e1,⟨q3.os.trans h.grown.os,q3.tape.trans h.grown.tape,q3.output.trans h.grown.output,Nat.le_trans h.grown.size q3.size,fun i hi hr=>(q3.block i (Nat.lt_of_lt_of_le hi h.grown.size) hr).trans (h.grown.block i hi hr)⟩⟩
theorem CA:∀w,(zeroValue 135).run Tryz.prog w= .ok (.agg #[.int .i64 0,.int .i64 0,.int .i64 0,.int .i64 0,.int .i64 0,.int .i64 0,.int .i64 0,.int .i64 0,.int .i64 0]) w:=fun _=>K9
theorem za(B gb:Nat)(a:It)(l:List It)(v:Value)(W:World)(h:W.ownsRow B 135 9 v l.length (l.flatMap bB))(hl:l.length≤1000000)(hb:W.heap[gb]? =some (.cells (bB a).toArray 135 (0,0)))(hgb:v.ownBlock≠some gb):Calls Tryz.prog 64 #[v,.func (Fn.func 65) #[] #[.pointer (some ⟨gb,0,none⟩)]] W fun e w'=>∃v',e= .returned v'∧w'.ownsRow B 135 9 v' (eL a l).length ((eL a l).flatMap bB)∧W.grownBy w' v.ownBlock:=by
 have HFE:=aa (Cx B gb l.length a l v W h rfl hl hb);rcases y' a l with hk|⟨k,hk⟩
 ·have HA:Hid (eL a l=l):=aa (Fj hk);rw[hk]at HFE;have HR:=aa h;obtain⟨A,c,rfl⟩:∃A c,v= .slice A l.length c:=by
   rcases h.2 with⟨rfl,h0⟩|⟨g,cap,cur,rfl,_⟩
   ·exact⟨none,0,by rw[h0]⟩
   ·exact⟨_,_,rfl⟩
  clear h hb hk;go_enter Tryz.func64,Tryz.ntmps64;go_wp2_with fail;refine HFE.out.mono ?_;rintro _ w2 ⟨rfl,b2⟩;have HG2:=aa b2.below;clear b2;go_wp2_with fail;go_ret;refine⟨_,rfl,?_,⟨HG2.out.os,HG2.out.tape,HG2.out.output,HG2.out.size,fun i hi _=>HG2.out.block i hi⟩⟩;rw[HA.out];exact gS HR.out HG2.out
 ·obtain⟨hkl,hkf⟩:=y8 hk;rw[hk]at HFE;obtain⟨g,c,rfl,hBg,hcap⟩:∃g c,v= .slice (some ⟨g,0,none⟩) l.length c∧B≤g∧l.length≤c:=by
   rcases h.2 with⟨rfl,h0⟩|⟨g,cap,cur,rfl,hB,_,hc,_⟩
   ·omega
   ·exact⟨g,cap,rfl,hB,hc⟩
  have HD0:Hid (uq B g l.length c k (k+1) a l W W):=aa ⟨⟨l,rfl,hkf.symm,rfl,h⟩,⟨rfl,rfl,rfl,Nat.le_refl _,fun _ _ _=>rfl⟩⟩;have HBK:=aa hb;have HGB:=aa (show gb≠g from fun e=>hgb (by rw[e];rfl));have HKL:=aa hkl;have HCP:=aa hcap;obtain⟨n,hn⟩:∃n,l.length=n:=⟨_,rfl⟩;have HN:=aa hn;rw[hn]at HFE HD0 HKL HCP hl ⊢;clear h hb hk hkf hkl hcap hn hBg hgb;go_enter Tryz.func64,Tryz.ntmps64;have hkn:¬(k:Int)= -1:=O9;have hkb:((k:Int) == -1)=false:=beq_eq_false_iff_ne.2 hkn
  have hkm:k≤1000000:=by have:=HKL.out;omega
  go_wp2_with fail;refine HFE.out.mono ?_;rintro _ w2 ⟨rfl,b2⟩;have HD2:=aa (HD0.out.step b2);clear b2 HFE HD0;go_wp2_with fail;go_loopw [5,6] (fun i j wr=>∃ni nj:Nat,i= .int .i64 ni∧j= .int .i64 nj∧ni<nj∧nj≤n∧Hid (uq B g n c ni nj a l W wr)) (fun _ j _=>n-(intOf j).toNat)
  case atStart=>exact⟨k,k+1,rfl,by go_num,Nat.lt_succ_self _,HKL.out,HD2⟩
  case round=>
   clear HD2;obtain⟨ni,nj,rfl,rfl,hij,hjn,hdl⟩:=hrel;have HDL:=aa hdl.out;have HIJ:=aa hij;clear hdl;by_cases hlt:nj<n
   ·obtain⟨x,hks⟩:∃x,l[nj]? =some x:=⟨_,List.getElem?_eq_getElem (show nj<l.length by rw[HN.out];exact hlt)⟩;obtain⟨c0,c1,c2,c3,c4,c5,c6,c7,c8⟩:=HDL.out.item hks;have HKS:=aa hks;have HLT:=aa hlt;have k0:(0:Int)≤(nj:Int):=O9;have k1:(nj:Int)<(n:Nat):=O9;have hm1:ni≤1000000:=O9;have hm2:nj≤1000000:=O9;have HDX:=aa (HDL.out.step ((aT.refl wr).alloc (.cells (bB x).toArray 135)));have hbk:(wr.alloc (.cells (bB x).toArray 135)).heap[gb]? =some (.cells (bB a).toArray 135 (0,0)):=by
     have hlt:=(Array.getElem?_eq_some_iff.1 HBK.out).1;exact(HDX.out.grown.block gb hlt (fun e=>by cases e;exact HGB.out rfl)).trans HBK.out
    have HE:=aa (sK gb a x _ hbk);have hnew:=heap_alloc_new wr (.cells (bB x).toArray 135);have HNW:=aa hnew;clear hks hlt hbk hnew hij hjn;unfold bB at HE HDX HNW;go_wp2_with fail;generalize wr.alloc (.cells #[.int .i64 (x.ix:Int),.int .i64 x.s.a.x,.int .i64 x.s.a.y,.int .i64 x.s.b.x,.int .i64 x.s.b.y,.int .i64 x.xl,.int .i64 x.xh,.int .i64 x.yl,.int .i64 x.yh] 135)=w3 at*;by_cases hp:x.xh<a.xl
    ·rw[decide_eq_true hp]at HE;have HP:=aa hp;clear hp;refine HE.out.mono ?_;rintro _ w4 ⟨rfl,b4⟩;have HD4:=aa ((HDX.out.step b4).skip HKS.out HP.out);clear b4 HE c0 c1 c2 c3 c4 c5 c6 c7 c8;have h1:=HLT.out;have h2:=HIJ.out;go_wp2_with fail;refine⟨⟨ni,nj+1,rfl,by go_num,O9,O9,HD4⟩,?_⟩;simp[intOf];omega
    ·rw[decide_eq_false hp]at HE;have HP:Hid (¬x.xh<a.xl):=aa hp;clear hp;refine HE.out.mono ?_;rintro _ w4 ⟨rfl,b4⟩;have hd4:=HDX.out.step b4;have fz:=hd4.frz;obtain⟨u70,r0⟩:=hd4.there (ni*9) (by have:=HIJ.out;have:=HLT.out;omega);obtain⟨u71,r1⟩:=hd4.there (ni*9+1) (by have:=HIJ.out;have:=HLT.out;omega);obtain⟨u72,r2⟩:=hd4.there (ni*9+2) (by have:=HIJ.out;have:=HLT.out;omega);obtain⟨u73,r3⟩:=hd4.there (ni*9+3) (by have:=HIJ.out;have:=HLT.out;omega)
     obtain⟨u74,r4⟩:=hd4.there (ni*9+4) (by have:=HIJ.out;have:=HLT.out;omega);obtain⟨u75,r5⟩:=hd4.there (ni*9+5) (by have:=HIJ.out;have:=HLT.out;omega);obtain⟨u76,r6⟩:=hd4.there (ni*9+6) (by have:=HIJ.out;have:=HLT.out;omega);obtain⟨u77,r7⟩:=hd4.there (ni*9+7) (by have:=HIJ.out;have:=HLT.out;omega);obtain⟨u78,r8⟩:=hd4.there (ni*9+8) (by have:=HIJ.out;have:=HLT.out;omega);have HD5:=aa (hd4.keep HKS.out HP.out HIJ.out HLT.out)
     obtain⟨e0,e1,e2,e3,e4,e5,e6,e7,e8⟩:=pJ ((b4.below.block wr.heap.size (Array.getElem?_eq_some_iff.1 HNW.out).1).trans HNW.out);clear b4 HE c0 c1 c2 c3 c4 c5 c6 c7 c8 hd4;have h1:=HLT.out;have h2:=HIJ.out;have k2:(0:Int)≤(ni:Int):=O9;have k3:(ni:Int)<(n:Nat):=O9;unfold wV at HD5;go_wp2_with fail;refine⟨⟨ni+1,nj+1,by go_num,by go_num,O9,O9,HD5⟩,?_⟩;show n-((nj:Int)+1).toNat<n-(nj:Int).toNat;omega
   ·(obtain rfl:nj=n:=by omega);have h2:=HIJ.out;have k1:¬(nj:Int)<(nj:Nat):=O9;have k2:(0:Int)≤(ni:Int):=O9;have k3:(ni:Int)≤(nj:Nat):=O9;(have k4:(ni:Int)≤(c:Nat):=by have:=HCP.out;omega);(have k5:(nj:Int)≤(c:Nat):=by have:=HCP.out;omega);(have k6:¬c=ni:=by have:=HCP.out;omega);have hm1:ni≤1000000:=O9;clear hlt
    obtain⟨F,hF,hcl⟩:=wU (P:=Tryz.prog) wr 130 135 0 (.agg #[.int .i64 0,.int .i64 0,.int .i64 0,.int .i64 0,.int .i64 0,.int .i64 0,.int .i64 0,.int .i64 0,.int .i64 0]) 9 Tryz.underlying130 CA rfl (by intro u hu;simp[Value.cells]at hu;subst hu;rfl) g (ni*9) (nj-ni) (c-ni) O9
     (fun j hj=>by obtain⟨u,hu⟩:=HDL.out.there (ni*9+j) (by have:(nj-ni)*9=nj*9-ni*9:=Nat.sub_mul ..;omega);rw[hu];rfl) (fun j _=>HDL.out.frz _)
    have HFN:=aa (HDL.out.fin HN.out.symm O9 F);clear hF;go_wp2_with fail;go_ret;exact⟨_,rfl,HFN.out⟩
