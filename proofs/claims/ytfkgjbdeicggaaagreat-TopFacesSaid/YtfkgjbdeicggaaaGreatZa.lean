/-
  The plane of a map in memory, and what is read off it.
-/
import Derived.Test.YtfkgjbdeicggaaaGreatZZ
set_option maxHeartbeats 8000000
set_option maxRecDepth 100000
namespace Go.Proofs.YtfkgjbdeicggaaaGreat
open Go.RowKit Go.Proofs.Px Go.Proofs.Pn Go.Proofs.Pm Go.Proofs.Pg Go.Proofs.Pto Go.Proofs.Pf
attribute [local go_sem] Oper.semAt_some
structure Gd(l:List Ob)(nb:BA→List BA)(P:BA→BA)(W:World)(x ba bn bp:Nat)(sv:Value)(la ln lp:List (BA×Value)):Prop where
 box:W.heap[x]? =some (.cells #[.map (some ba),.map (some bn),.map (some bp),sv] 182 (0,0))
 mat:cE W ba la
 mnb:cE W bn ln
 mpt:cE W bp lp
 pts:∀s∈an l,aJ la s.1=some (.agg #[.int .i64 (ar l s.1).x,.int .i64 (ar l s.1).y])
 nbs:∀s∈an l,∃v,aJ ln s.1=some v∧ff W v (nb s.1)
 all:∀v u,aJ ln v=some u→ff W u (nb v)
 few:∀v,(nb v).length≤1000
 labs:∀s∈an l,∃q,aJ lp s.1=some (.pointer (some ⟨q,0,none⟩))∧W.heap[q]? =some (.cells #[.string (P s.1)] 9 (0,0))
theorem Gd.below{l:List Ob}{nb:BA→List BA}{P:BA→BA}{W W':World}{x ba bn bp:Nat}{sv:Value}{la ln lp:List (BA×Value)}(h:Gd l nb P W x ba bn bp sv la ln lp)(hb:Below W.heap.size W W'):Gd l nb P W' x ba bn bp sv la ln lp:=
 ⟨ai hb h.box,h.mat.kept (aI hb) (by simp),h.mnb.kept (aI hb) (by simp),h.mpt.kept (aI hb) (by simp),h.pts,fun s hs=>by
  obtain⟨v,h1,h2⟩:=h.nbs s hs;exact⟨v,h1,h2.below hb⟩,fun v u h1=>(h.all v u h1).below hb,h.few,fun s hs=>by
  obtain⟨q,h1,h2⟩:=h.labs s hs;exact⟨q,h1,ai hb h2⟩⟩
structure IJ(l:List Ob)(W:World)(x ba:Nat)(b c d:Value)(la:List (BA×Value)):Prop where
 box:W.heap[x]? =some (.cells #[.map (some ba),b,c,d] 182 (0,0))
 mat:cE W ba la
 pts:∀s∈an l,aJ la s.1=some (.agg #[.int .i64 (ar l s.1).x,.int .i64 (ar l s.1).y])
theorem IJ.below{l:List Ob}{W W':World}{x ba:Nat}{b c d:Value}{la:List (BA×Value)}(h:IJ l W x ba b c d la)(hb:Below W.heap.size W W'):IJ l W' x ba b c d la:=⟨ai hb h.box,h.mat.kept (aI hb) (by simp),h.pts⟩
theorem ji(w:World):(zeroValue 44).run Tryz.prog w= .ok (.agg #[.int .i64 0,.int .i64 0]) w:=K9
theorem ef{l:List Ob}(hm:aZ l=true){s:eM}(hs:s∈an l):0≤(ar l s.1).x∧(ar l s.1).x<1048576∧0≤(ar l s.1).y∧(ar l s.1).y<1048576:=by
 obtain⟨p,hp,e1,_⟩:=gH hs;obtain⟨n1,n2⟩:=dG hp;rcases e1 with e|e<;>rw[e]
 ·exact gF hm n1
 ·exact gF hm n2
theorem pq(l:List Ob)(w:World)(x ba:Nat)(b c d:Value)(la:List (BA×Value))(h:IJ l w x ba b c d la)(hm:aZ l=true)(s:eM)(hs:s∈an l)(hk1:s.1.size≤maxLen)(hk2:s.2.size≤maxLen):Calls Tryz.prog 97 #[.pointer (some ⟨x,0,none⟩),.string s.1,.string s.2] w fun e w'=>e= .returned (.agg #[.int .i64 ((ar l s.2).x-(ar l s.1).x),.int .i64 ((ar l s.2).y-(ar l s.1).y)])∧aT w w':=by
 have e1:=h.pts s hs;have e2:=h.pts (swp s) (bI.2 hs);have g1:=ef hm hs;have g2:=ef hm (bI.2 hs);obtain⟨v,u⟩:=s;simp only[swp]at e1 e2 g1 g2 ⊢;have hbox:=dU (.cells #[.int .i64 0,.int .i64 0] 189) h.box;have c0:=cell_of_row _ _ 0 _ _ _ hbox;have hn:=cj w (.cells #[.int .i64 0,.int .i64 0] 189) _ rfl;obtain⟨⟨r0,r1⟩,r2,r3⟩:=aW hn;have HB:=aa ((aT.refl w).alloc (.cells #[.int .i64 0,.int .i64 0] 189));have l1:=(h.mat.alloc (.cells #[.int .i64 0,.int .i64 0] 189)).drew
 have look1:(Instr.lookup 178 (.map (some ba)) (.string v) false).run Tryz.prog (w.alloc (.cells #[.int .i64 0,.int .i64 0] 189)).drew=_:=l1.look Tryz.underlying178 ji (x:=v) hk1;have look2:(Instr.lookup 178 (.map (some ba)) (.string u) false).run Tryz.prog (w.alloc (.cells #[.int .i64 0,.int .i64 0] 189)).drew=_:=l1.look Tryz.underlying178 ji (x:=u) hk2;rw[e1,Option.getD_some]at look1;rw[e2,Option.getD_some]at look2;generalize ar l v=p at*;generalize ar l u=q at*;obtain⟨px,py⟩:=p
 obtain⟨qx,qy⟩:=q;simp only at look1 look2 g1 g2 ⊢;have f1:∀W:World,(Instr.field 44 (.agg #[.int .i64 px,.int .i64 py]) 0).run Tryz.prog W= .ok (.int .i64 px) W:=fun W=>K9;have f2:∀W:World,(Instr.field 44 (.agg #[.int .i64 px,.int .i64 py]) 1).run Tryz.prog W= .ok (.int .i64 py) W:=fun W=>K9;have f3:∀W:World,(Instr.field 44 (.agg #[.int .i64 qx,.int .i64 qy]) 0).run Tryz.prog W= .ok (.int .i64 qx) W:=fun W=>K9
 have f4:∀W:World,(Instr.field 44 (.agg #[.int .i64 qx,.int .i64 qy]) 1).run Tryz.prog W= .ok (.int .i64 qy) W:=fun W=>K9;go_enter Tryz.func97,Tryz.ntmps97;go_upto_region 1 with(fail);clear h hbox l1 e1 e2 hn;generalize hwo:w.alloc _=wo at*;have HWO:=aa hwo;clear hwo;go_still_tail 31,K9;change wpList _ _ _ _ _ wo.drew;have hwo:=HWO.out;subst hwo;clear HWO r0 r1 r2 r3 c0 look1 look2;go_wp2_with fail
 refine bodyPost_ret (v:=.agg #[.int .i64 (qx-px),.int .i64 (qy-py)]) (by simp[results,Tryz.results97,go_sem];trace_state) rfl ⟨rfl,?_⟩;exact((aT.refl _).alloc _).drew
def cN:List Pt→List Value
 | []=>[]
 |p::l=>[.int .i64 p.x,.int .i64 p.y]++cN l
theorem lh(a b:List Pt):cN (a++b)=cN a++cN b:=by
 induction a with
 |nil=>rfl
 |cons t a ih=>simp only[List.cons_append,cN,ih,List.append_assoc]
theorem pw(a:List Pt)(i:Nat)(t:Pt)(h:a[i]? =some t):(cN a)[i*2]? =some (.int .i64 t.x)∧(cN a)[i*2+1]? =some (.int .i64 t.y):=by
 induction a generalizing i with
 |nil=>simp at h
 |cons u a ih=>
  cases i with
  |zero=>
   simp only[List.getElem?_cons_zero,Option.some.injEq]at h;subst h;simp[cN]
  |succ i=>
   simp only[List.getElem?_cons_succ]at h;obtain⟨h1,h2⟩:=ih i h;have e:∀j,(cN (u::a))[2+j]? =(cN a)[j]? :=fun j=>by
    simp only[cN];rw[List.getElem?_append_right (by simp)];congr 1;simp
   refine⟨?_,?_⟩
   ·rw[show(i+1)*2=2+i*2 by omega,e];exact h1
   ·rw[show(i+1)*2+1=2+(i*2+1)by omega,e];exact h2
theorem qW:(Tryz.prog.info? 44).map (fun i=>(i.zero,i.size,i.bytes))=some (some (.agg #[.int .i64 0,.int .i64 0]),2,16):=K9
theorem sV(g j:Nat):Addr.add ⟨g,0,none⟩ j=⟨g,j,none⟩:=by
 unfold Addr.add;split
 ·rename_i h;rw[h]
 ·simp
theorem lj(w:World)(l:List Value)(t:TypeId):∀(j:Nat)(u:Value),l[j]? =some u→(w.alloc (.cells l.toArray t)).cell? (Addr.add ⟨w.heap.size,0,none⟩ j)=some u:=by
 intro j u hj;rw[sV,cell_of_row (w.alloc (.cells l.toArray t)) w.heap.size j l.toArray t (0,0) (heap_alloc_new w _)];simpa using hj
theorem mM{w:World}{B:Nat}{e:TypeId}{sz:Nat}{v:Value}{n:Nat}{xs:List Value}(h:w.ownsRow B e sz v n xs):∃A c,v= .slice A n c:=by
 rcases h.2 with⟨rfl,h0⟩|⟨g,cap,cur,rfl,_⟩
 ·exact⟨none,0,by rw[h0]⟩
 ·exact⟨_,_,rfl⟩
theorem CP{w:World}{B:Nat}{e:TypeId}{A:Option Addr}{n c:Nat}{xs:List Value}(h:w.ownsRow B e 2 (.slice A n c) n xs)(hn:0<n):∃g,A=some ⟨g,0,none⟩∧∀j u,xs[j]? =some u→w.cell? ⟨g,j,none⟩=some u:=by
 rcases h.2 with⟨h0,h1⟩|⟨g,cap,cur,h0,_⟩
 ·omega
 ·simp only[Value.slice.injEq]at h0;obtain⟨rfl,_,_⟩:=h0;refine⟨g,rfl,fun j u hj=>?_⟩;have:=h.cells (g:=g) rfl j u hj;rwa [sV]at this
structure xV(w:World)(r:List Pt)(A:Option Addr)(c:Nat)(W:World):Prop where
 own:W.ownsRow w.heap.size 44 2 (.slice A r.length c) r.length (cN r)
 below:Below w.heap.size w W
theorem xV.lift{w:World}{r:List Pt}{A:Option Addr}{c:Nat}{W W':World}(h:xV w r A c W)(hb:Below W.heap.size W W'):xV w r A c W':=⟨ao h.own hb,aq h.below hb⟩
theorem xV.pts{w:World}{r:List Pt}{A:Option Addr}{c:Nat}{W:World}(h:xV w r A c W)(hr:0<r.length):∃g,A=some ⟨g,0,none⟩∧w.heap.size≤g∧g<W.heap.size∧eI W g r:=by
 obtain⟨g,rfl,hc⟩:=CP h.own hr;have hl:=h.own.lt g rfl;refine⟨g,rfl,hl.1,hl.2,fun i p hp=>?_⟩;obtain⟨e1,e2⟩:=pw r i p hp;exact⟨hc _ _ e1,hc _ _ e2⟩
theorem mN(l:List Ob)(nb:BA→List BA)(P:BA→BA)(w:World)(x ba bn bp:Nat)(sv:Value)(la ln lp:List (BA×Value))(h:Gd l nb P w x ba bn bp sv la ln lp)(L:List BA)(v:Value)(hv:ff w v L)(hL:L.length≤1000)(hk:∀s∈L,s.size≤maxLen∧∃t∈an l,t.1=s):Calls Tryz.prog 99 #[.pointer (some ⟨x,0,none⟩),v] w fun e w'=>∃A c,e= .returned (.slice A (bF l L).length c)∧xV w (bF l L) A c w':=by
 obtain⟨i0,hi0,hz0,hz1,hz2⟩:=aM qW;have HI:=aa hi0;have HZ0:=aa hz0;have HZ1:=aa hz1;have HZ2:=aa hz2;clear hi0 hz0 hz1 hz2;obtain⟨A0,c0,rfl,hc0,hA⟩:=hv;have HA:=aa hA;have HK:=aa hk;have HQ:=aa h;clear h hk hA;obtain⟨n,hnn⟩:∃n,n=L.length:=⟨_,rfl⟩;have HN:=aa hnn;rw[←hnn]at hL hc0 ⊢;clear hnn;go_enter Tryz.func99,Tryz.ntmps99;go_wp2_with fail
 go_loopw [5,10] (fun u i wr=>∃(k:Nat)(A:Option Addr)(c:Nat)(q:List Pt),k≤n∧i= .int .i64 k∧u= .slice A q.length c∧q.length=k∧Hid (q=(bF l L).take k)∧Hid (xV w q A c wr)) (fun _ i _=>n-(intOf i).toNat)
 case atStart=>exact⟨0,none,0,[],Nat.zero_le _,rfl,rfl,rfl,rfl,⟨World.ownsRow_nil _ _ _ _,Below.refl _ _⟩⟩
 case round=>
  obtain⟨k,A,c,q,hk,rfl,rfl,hql,hq,hm⟩:=hrel;by_cases hlt:k<n
  ·(have hlt':k<L.length:=by have:=HN.out;omega);obtain⟨g,o,rfl,hg,hp⟩:=HA.out.resolve_left (by rintro e;rw[e]at hlt';simp at hlt');have hcl:=hp k L[k] (List.getElem?_eq_getElem hlt');obtain⟨hsz,t,ht,hts⟩:=HK.out L[k] (List.getElem_mem hlt');have hQ':=HQ.out.below hm.out.below;have hbx:=cell_of_row _ _ 0 _ _ _ hQ'.box;have hlook:(Instr.lookup 178 (.map (some ba)) (.string L[k]) false).run Tryz.prog wr=_:=hQ'.mat.look Tryz.underlying178 ji (x:=L[k]) hsz
   rw[←hts,HQ.out.pts t ht,Option.getD_some,hts]at hlook;have hsn:q++[ar l L[k]]=(bF l L).take (k+1):=by
    unfold bF;rw[List.take_add_one,List.getElem?_map,List.getElem?_eq_getElem hlt',hq.out];rfl
   have HSN:=aa hsn;replace hcl:=(hm.out.below.cell (p:=⟨g,_,none⟩) hg).trans hcl;have hql1:q.length≤1000:=O9;have b1:(0:Int)≤k:=O9;have b2:(k:Int)<n:=O9;generalize ar l L[k]=p at*;generalize L[k]=id at*;obtain⟨px,py⟩:=p;simp only at hlook;have hcap:(k:Int)<c0:=O9;have HQL:=aa hql;clear hQ' hsn hp hts ht hq HK hql
   go_wp2_with (at_builtin;go_must (refine wpList_append_own _ rfl (.tmp 14) (.tmp 21) 49 rfl w.heap.size 44 i0 (.agg #[.int .i64 0,.int .i64 0]) 2 16 Tryz.underlying49 HI.out HZ0.out HZ1.out HZ2.out rfl (by decide) (.slice A q.length c) q.length (cN q) rfl ?c0 ⟨wr.heap.size,0,none⟩ 1 1 [.int .i64 px,.int .i64 py] rfl rfl ?c1 ?c2 ?c3 ?c4 ?c5 ?_))
   all_goals have hm5:xV w q A c (wr.alloc (.cells #[.int .i64 px,.int .i64 py] 44)):=hm.out.lift ((Below.refl _ wr).alloc (Nat.le_refl _) _)
   case c0=>exact hm5.own
   case c1=>exact lj wr [.int .i64 px,.int .i64 py] 44
   case c2=>intro u hu;simp at hu;rcases hu with rfl|rfl<;>rfl
   case c3=>unfold maxLen;omega
   case c4=>omega
   case c5=>exact hm5.below.size
   intro v' w9 hown' hgrow _;have hm9:∃A' c',v'=Value.slice A' (q++[(⟨px,py⟩:Pt)]).length c'∧xV w (q++[⟨px,py⟩]) A' c' w9:=by
    obtain⟨A',c',rfl⟩:=mM hown';refine⟨A',c',by simp,?_,hm5.below.grown hgrow hm5.below.size (fun b hb=>(hm5.own.lt b hb).1)⟩;rw[List.length_append,lh];exact hown'
   obtain⟨A',c',rfl,hm9⟩:=hm9;have HM9:=aa hm9;clear hm9 hown' hgrow hm5 hcl hlook hbx;go_wp2_with fail;refine⟨⟨k+1,A',c',q++[(⟨px,py⟩:Pt)],O9,by go_num,rfl,by simp[HQL.out],HSN,HM9⟩,?_⟩;simp[intOf];omega
  ·(have hkn:k=n:=by omega);(have hqq:q=bF l L:=by rw[hq.out,hkn,HN.out,List.take_of_length_le (by rw[eJ];exact Nat.le_refl _)]);subst hqq;clear hq;go_wp2_with fail;go_ret;exact⟨_,_,rfl,hm.out⟩
end Go.Proofs.YtfkgjbdeicggaaaGreat
namespace Go.Proofs.YtfkgjbdeicggaaaGreat
open Go.RowKit Go.Proofs.Px Go.Proofs.Pn Go.Proofs.Pm Go.Proofs.Pg Go.Proofs.Pto
attribute [local go_sem] Oper.semAt_some run_makeMap
theorem zr{l:List Ob}{s:BA}{i:Nat}(h:dv s l=some i):∃o,l[i]? =some o∧cA l s=some o:=by
 obtain⟨o,h1,_,_,h4⟩:=eU s l i h;exact⟨o,h1,h4⟩
theorem Ft{l:List Ob}{s:BA}{o:Ob}(h:cA l s=some o):∃i,dv s l=some i:=by
 cases e:dv s l with
 |some i=>exact⟨i,rfl⟩
 |none=>
  obtain⟨h1,h2⟩:=db h;exact absurd h2 (iE s l e o h1)
theorem sW(l:List Ob)(hu:uniq l)(pv:Value)(s:BA)(hs:s.size≤100000)(hn:isNode l s=true)(w:World)(h:CL w l pv):Calls Tryz.prog 32 #[pv,.string s] w fun e w'=>e= .returned (.agg #[.int .i64 (ar l s).x,.int .i64 (ar l s).y])∧Below w.heap.size w w':=by
 obtain⟨v,bm,ml,rfl,hi,hms,hf⟩:=h;obtain⟨o,_,hfo,_⟩:=lL hu hn;obtain⟨i,hfn⟩:=Ft hfo;obtain⟨o',hoi,hfo'⟩:=zr hfn;rw[hfo]at hfo';cases hfo';have hp0:ar l s=⟨o.x,o.y⟩:=by unfold ar;rw[hfo]
 rw[hp0];have hsz:s.size≤maxLen:=Nat.le_trans hs (by unfold maxLen;omega);obtain⟨w2,hw2⟩:∃w2,(w.alloc (.cells #[v,.map (some bm)] 81)).alloc (.cells #[.int .i64 0,.int .i64 0] 44)=w2:=⟨_,rfl⟩;have hb:Below w.heap.size w w2:=by rw[←hw2];exact((Below.refl _ _).alloc (Nat.le_refl _) _).alloc (by simp) _
 have hbp:w2.heap[w.heap.size]? =some (.cells #[v,.map (some bm)] 81 (0,0)):=by
  rw[←hw2];exact ai ((Below.refl _ _).alloc (Nat.le_refl _) _) (heap_alloc_new w _)
 have hlook:(Instr.lookup 37 (.map (some bm)) (.string s) false).run Tryz.prog w2=_:=(hms.kept (aI hb) (by simp)).look Tryz.underlying37 sT (x:=s) hsz;rw[hf,hfn]at hlook;simp only[Option.map_some,Option.getD_some]at hlook;obtain⟨b0,b1⟩:=(aW hbp).1;have hlt:=(List.getElem?_eq_some_iff.1 hoi).1;obtain⟨A,c,rfl,_,hA⟩:=(hi.below hb).obs;obtain⟨g,off,rfl,hg,hp⟩:=hA.resolve_left (by rintro rfl;simp at hlt);obtain⟨rv,tv,hoa⟩:=hp i _ hoi;have c2:=hoa.c2;have c3:=hoa.c3;have i0:(0:Int)≤(i:Int):=O9
 have i1:(i:Int)<l.length:=O9;have hlen:=hi.len;have hr:w2.heap[w.heap.size+1]? =some (.cells #[.int .i64 0,.int .i64 0] 44 (0,0)):=by
  rw[←hw2];have:=heap_alloc_new (w.alloc (.cells #[.slice (some ⟨g,off,none⟩) l.length c,.map (some bm)] 81)) (.cells #[.int .i64 0,.int .i64 0] 44);simpa using this
 obtain⟨⟨q0,q1⟩,f1,f2⟩:=aW hr;have HB:=aa hb;clear hp hoa hA hi hms hf hu hn hfo hfn hoi hb hbp hlt hp0 hr;go_enter Tryz.func32,Tryz.ntmps32;go_wp2_with fail;exact bodyPost_ret (v:=.agg #[.int .i64 o.x,.int .i64 o.y]) (by simp[results,Tryz.results32,go_sem,q0,q1]) rfl ⟨rfl,(HB.out.setCell (by simp) _).setCell (by simp) _⟩
def kA(s:Sg):List Value:=[.int .i64 s.a.x,.int .i64 s.a.y,.int .i64 s.b.x,.int .i64 s.b.y]
theorem nP(s:Sg):(kA s).length=4:=rfl
theorem qX{W:World}{B:Nat}{v:Value}{C:List Sg}(h:W.ownsRow B 68 4 v C.length (C.flatMap kA)):Bd W v C:=by
 rcases h.2 with⟨rfl,h0⟩|⟨g,cap,cur,rfl,hB,hb,hc,_⟩
 ·exact⟨none,0,by rw[h0],.inl (List.length_eq_zero_iff.1 h0)⟩
 ·refine⟨_,_,rfl,.inr ⟨g,0,rfl,(Array.getElem?_eq_some_iff.1 hb).1,fun i x hi=>?_⟩⟩;have key:∀j u,(C.flatMap kA)[j]? =some u→W.cell? ⟨g,0+j,none⟩=some u:=by
   intro j u hj;have:=h.cells (g:=g) rfl j u hj;(have e:(⟨g,0,none⟩:Addr).add j=⟨g,0+j,none⟩:=by simp only[Addr.add,Nat.zero_add];split<;>simp_all);rw[←e];exact this
  have k0:=dK nP C i 0 O9;have k1:=dK nP C i 1 O9;have k2:=dK nP C i 2 O9;have k3:=dK nP C i 3 O9;rw[hi]at k0 k1 k2 k3;exact⟨key _ _ k0,key _ _ k1,key _ _ k2,key _ _ k3⟩
theorem xi:(Tryz.prog.info? 68).map (fun i=>(i.zero,i.size,i.bytes))=some (some (.agg #[.int .i64 0,.int .i64 0,.int .i64 0,.int .i64 0]),4,32):=K9
structure uP(w1:World)(b0 lb bm:Nat)(v ov:Value)(p:Pr)(W:World):Prop where
 below:Below w1.heap.size w1 W
 pb:W.heap[b0]? =some (.cells #[v,.map (some bm)] 81 (0,0))
 lb:W.heap[lb]? =some (.cells #[.string p.1,.string p.2,ov] 91 (0,0))
theorem uP.step{w1:World}{b0 lb bm:Nat}{v ov:Value}{p:Pr}{W W':World}(h:uP w1 b0 lb bm v ov p W)(hb:Below W.heap.size W W'):uP w1 b0 lb bm v ov p W':=⟨aq h.below hb,ai hb h.pb,ai hb h.lb⟩
theorem uP.cells{w1:World}{b0 lb bm:Nat}{v ov:Value}{p:Pr}{W:World}(h:uP w1 b0 lb bm v ov p W):W.cell? ⟨b0,0,none⟩=some v∧W.cell? ⟨b0,1,none⟩=some (.map (some bm))∧W.cell? ⟨lb,0,none⟩=some (.string p.1)∧W.cell? ⟨lb,1,none⟩=some (.string p.2):=
 ⟨(aW h.pb).1.1,(aW h.pb).1.2,cell_of_row W _ 0 _ _ _ h.lb,cell_of_row W _ 1 _ _ _ h.lb⟩
theorem uP.grow{w1:World}{b0 lb bm:Nat}{v ov:Value}{p:Pr}{W W':World}{n sz:Nat}{vo:Value}{xs:List Value}(h:uP w1 b0 lb bm v ov p W)(ho:W.ownsRow w1.heap.size 68 sz vo n xs)(hg:W.grownBy W' vo.ownBlock):uP w1 b0 lb bm v ov p W':=
 ⟨ak h.below hg (fun r hr=>(aj ho hr).1),(hg.block _ (lt_of_block h.pb) (eA ho h.pb (by decide))).trans h.pb,(hg.block _ (lt_of_block h.lb) (eA ho h.lb (by decide))).trans h.lb⟩
theorem nQ(l:List Ob)(hu:uniq l)(pv lv:Value)(L:List Ln)(hL:∀x∈L,iI x.1∧isNode l x.1.1=true∧isNode l x.1.2=true)(hll:L.length≤1000)(w:World)(h:CL w l pv)(hv:II w lv L):Calls Tryz.prog 35 #[pv,lv] w fun e w'=>∃rv,e= .returned rv∧Bd w' rv (L.map (fun x=>cF l x.1))∧Below w.heap.size w w':=by
 obtain⟨i0,hi0,hz0,hz1,hz2⟩:=aM xi;have HI0:=aa hi0;have HZ0:=aa hz0;have HZ1:=aa hz1;have HZ2:=aa hz2;clear hi0 hz0 hz1 hz2;have HLL:=aa hL;obtain⟨v,bm,ml,rfl,hi,hms,hf⟩:=h;obtain⟨A,c,rfl,hA⟩:=hv;have HA:=aa hA;obtain⟨w1,hw1⟩:∃w1,w.alloc (.cells #[v,.map (some bm)] 81)=w1:=⟨_,rfl⟩;have hb1:Below w.heap.size w w1:=by rw[←hw1];exact(Below.refl _ _).alloc (Nat.le_refl _) _
 have hbp:w1.heap[w.heap.size]? =some (.cells #[v,.map (some bm)] 81 (0,0)):=by rw[←hw1];exact heap_alloc_new w _
 have HPT:=aa (fun W (hb:Below w1.heap.size w1 W) s (hs:s.size≤100000)(hn:isNode l s=true)=>sW l hu (.agg #[v,.map (some bm)]) s hs hn W ⟨v,bm,ml,rfl,hi.below (aq hb1 hb),hms.kept (aI (aq hb1 hb)) (by simp),hf⟩);have HB1:=aa hb1;have HBP:=aa hbp;clear hi hms hf hu hA hL;obtain⟨b0,hb0⟩:∃b0,w.heap.size=b0:=⟨_,rfl⟩;rw[hb0]at HBP;go_enter Tryz.func35,Tryz.ntmps35;go_wp2_with fail
 go_loopw [5,10] (fun vo i wr=>∃(k:Nat)(Ao:Option Addr)(co:Nat),k≤L.length∧i= .int .i64 k∧vo= .slice Ao k co∧Hid (wr.ownsRow w1.heap.size 68 4 (.slice Ao k co) k (((L.take k).map (fun x=>cF l x.1)).flatMap kA))∧Hid (Below w1.heap.size w1 wr)) (fun _ i _=>L.length-(intOf i).toNat)
 case atStart=>exact⟨0,none,0,Nat.zero_le _,rfl,rfl,World.ownsRow_nil _ _ _ _,Below.refl _ _⟩
 case round=>
  obtain⟨k,Ao,co,hk,rfl,rfl,hro,hbw⟩:=hrel;by_cases hlt:k<L.length
  ·obtain⟨g,o,rfl,hg,hp⟩:=HA.out.resolve_left (by rintro rfl;simp at hlt);obtain⟨ov,d0,d1,d2,hov⟩:=(hp.below hg (aq HB1.out hbw.out)) k _ (List.getElem?_eq_getElem hlt);obtain⟨Av,cv,rfl,_⟩:=hov;have hLx:=HLL.out _ (List.getElem_mem hlt);have HTK:Hid (((L.take (k+1)).map (fun x=>cF l x.1)).flatMap kA=((L.take k).map (fun x=>cF l x.1)).flatMap kA++kA (cF l L[k].1)):=aa (by
    rw[List.take_add_one,List.getElem?_eq_getElem hlt,List.map_append,List.flatMap_append];simp)
   generalize L[k]=x at*;obtain⟨⟨pa,pb⟩,ids⟩:=x;simp only at d0 d1 d2 hLx HTK;have k0:(0:Int)≤k:=O9;have k1:(k:Int)<L.length:=O9;have HL:=aa hlt;have HMS:=aa (show L.length-(k+1)<L.length-k from by omega);have HX:=aa (fun W (hb:Below w1.heap.size w1 W)=>HPT.out W hb pa hLx.1.1 hLx.2.1);have HY:=aa (fun W (hb:Below w1.heap.size w1 W)=>HPT.out W hb pb hLx.1.2 hLx.2.2)
   have hba:Below wr.heap.size wr (wr.alloc (.cells #[.string pa,.string pb,.slice Av ids.length cv] 91)):=(Below.refl _ _).alloc (Nat.le_refl _) _;have HK:Hid (uP w1 b0 wr.heap.size bm v (.slice Av ids.length cv) (pa,pb) (wr.alloc (.cells #[.string pa,.string pb,.slice Av ids.length cv] 91))):=aa ⟨aq hbw.out hba,ai hba (ai hbw.out HBP.out),heap_alloc_new _ _⟩;have HO:=aa (ao hro.out hba);clear hro hbw hlt hp hba hLx;go_upto_region 5 with(fail);clear d0 d1 d2
   obtain⟨lb,hlb⟩:∃lb,wr.heap.size=lb:=⟨_,rfl⟩;rw[hlb]at HK ⊢;clear hlb;generalize wr.alloc _=wd at*;have HKD:=aa (HK.out.step (aA wd));have HBD:Below wd.heap.size wd wd.drew:=aA wd;obtain⟨⟨x1,y1⟩,hpa⟩:∃q,ar l pa=q:=⟨_,rfl⟩;obtain⟨⟨x2,y2⟩,hpb⟩:∃q,ar l pb=q:=⟨_,rfl⟩;have HSE:Hid (kA (cF l (pa,pb))=[.int .i64 x1,.int .i64 y1,.int .i64 x2,.int .i64 y2]):=aa (by unfold cF kA;simp only[hpa,hpb]);rw[hpa]at HX;rw[hpb]at HY;clear hpa hpb;simp only at HX HY
   obtain⟨xs,hxs⟩:∃xs,((L.take k).map (fun x=>cF l x.1)).flatMap kA=xs:=⟨_,rfl⟩;rw[hxs]at HO HTK;clear hxs;go_region_held3 (fun w'=>uP w1 b0 lb bm v (.slice Av ids.length cv) (pa,pb) w'∧(w'.cell? ⟨b0,0,none⟩=some v∧w'.cell? ⟨b0,1,none⟩=some (.map (some bm))∧w'.cell? ⟨lb,0,none⟩=some (.string pa)∧w'.cell? ⟨lb,1,none⟩=some (.string pb)))
    (with_reducible (first|exact⟨HKD.out,HKD.out.cells⟩|exact⟨hk7,hk7.cells⟩|exact⟨hk8,hk8.cells⟩|exact⟨hk9,hk9.cells⟩|exact⟨uP.step (And.left (by assumption)) ((Below.refl _ _).alloc (Nat.le_refl _) _),(uP.step (And.left (by assumption)) ((Below.refl _ _).alloc (Nat.le_refl _) _)).cells⟩))
    (first
     |(go_at_call 32;(with_reducible refine(HX.out _ (uP.below (And.left (by assumption)))).mono ?_);rintro _ w7 ⟨rfl,b7⟩;have hk7:=uP.step (And.left (by assumption)) b7;have hb7:Below wd.heap.size wd w7:=aq (by assumption) b7)
     |(go_at_call 32;(with_reducible refine(HY.out _ (uP.below (And.left (by assumption)))).mono ?_);rintro _ w7 ⟨rfl,b8⟩;have hk8:=uP.step (And.left (by assumption)) b8;have hb8:Below wd.heap.size wd w7:=aq (by assumption) b8)
     |(refine step_append_lies _ (by rfl) _ _ _ (by rfl) w1.heap.size 68 i0 (.agg #[.int .i64 0,.int .i64 0,.int .i64 0,.int .i64 0]) 4 32 Tryz.underlying54 HI0.out HZ0.out HZ1.out HZ2.out rfl O9 (.slice Ao k co) k xs (by rfl) ((ao HO.out hb8).alloc _) ⟨w7.heap.size,0,none⟩ 1 1 [.int .i64 x1,.int .i64 y1,.int .i64 x2,.int .i64 y2] (by rfl) (by rfl) (World.news_of_block (cs:=#[.int .i64 x1,.int .i64 y1,.int .i64 x2,.int .i64 y2]) (t:=68) (fr:=(0,0)) (heap_alloc_new w7 _)) (by simp[Value.oneCell']) O9 (by unfold maxLen;omega) O9 (by have:=hk8.below.size;simp;omega) (w7.heap.size+1) (by simp) ?_;intro gg cap w9 hown9 hgrow9 hat9 hlt9;have hk9:=uP.grow (uP.step hk8 ((Below.refl _ _).alloc (Nat.le_refl _) _)) ((ao HO.out hb8).alloc _) hgrow9))
   have HO9:Hid (w9.ownsRow w1.heap.size 68 4 (.slice (some ⟨gg,0,none⟩) (k+1) cap) (k+1) (((L.take (k+1)).map (fun x=>cF l x.1)).flatMap kA)):=aa (by rw[HTK.out,HSE.out];exact hown9);have HB9:=aa hk9.below;clear hown9 hgrow9 hat9 hlt9 hk9 hk8 hb8 b8 hk7 hb7 b7;go_wp2_with fail;refine⟨⟨k+1,some ⟨gg,0,none⟩,cap,HL.out,by go_num,rfl,HO9,HB9⟩,?_⟩;have:=HMS.out;simp[intOf];omega
  ·(obtain rfl:k=L.length:=by omega);have k1:¬(L.length:Int)<(L.length:Nat):=O9;have HRO:=aa hro.out;have HBW:=aa (aq HB1.out hbw.out);clear hro hbw hlt;go_wp2_with fail;go_ret;refine⟨_,rfl,?_,by rw[←hb0];exact HBW.out⟩;have h1:=HRO.out;rw[List.take_length]at h1;have h2:(L.map (fun x=>cF l x.1)).length=L.length:=List.length_map ..;rw[←h2]at h1 ⊢;exact qX h1
theorem CQ{l:List Ob}(h:dZ l):(fX l).length≤240:=by
 unfold fX;have key:∀M:List Ob,(∀o∈M,o.refs.length≤12)→(M.flatMap (bU l)).length≤12*M.length:=fun M=>by
  induction M with
  |nil=>intro _;simp
  |cons o M ih=>
   intro hM;rw[List.flatMap_cons,List.length_append,List.length_cons];have h1:=ih (fun x hx=>hM x (List.mem_cons_of_mem _ hx));have h2:(bU l o).length≤12:=by
    unfold bU;split
    ·rw[bw,List.length_map,List.length_range];have:=hM o (List.mem_cons_self ..);unfold br;split
     ·omega
     ·split<;>omega
    ·simp
   omega
 have:=key l (fun o ho=>(h.2 o ho).2.1);have:=h.1;omega
theorem e9{l:List Ob}(h:dZ l):(af l).length≤240:=by
 have:=yC [] (fX l);have:=CQ h;unfold af;simp at*;omega
theorem bO{l:List Ob}(h:dZ l){p:Pr}(hp:p∈af l):p.1.size≤60∧p.2.size≤60:=by
 rw[df,fX,List.mem_flatMap]at hp;obtain⟨o,ho,hp⟩:=hp;obtain⟨_,h1,h2,_⟩:=mE hp;exact⟨(h.2 o ho).2.2 _ h1,(h.2 o ho).2.2 _ h2⟩
theorem xj{l:List Ob}(h:dZ l):∀x∈bQ l,iI x.1∧isNode l x.1.1=true∧isNode l x.1.2=true:=fun x hx=>by
 unfold bQ at hx;obtain⟨p,hp,rfl⟩:=List.mem_map.1 hx;have h1:=bO h hp;have h2:=dG hp;refine⟨⟨?_,?_⟩,h2⟩
 ·show p.1.size≤100000;omega
 ·show p.2.size≤100000;omega
theorem fP(l:List Ob):(bQ l).length=(af l).length:=by unfold bQ;rw[List.length_map]
theorem qY(l:List Ob):(bQ l).map (fun x=>cF l x.1)=dw l:=by
 unfold bQ dw;rw[List.map_map];rfl
theorem zt{W:World}{B:Nat}{v:Value}{C:List (Value×List BA)}(h:W.ownsRow B 39 1 v C.length (C.map Prod.fst))(hs:∀x∈C,ff W x.1 x.2):DO W v (C.map Prod.snd):=by
 rcases h.2 with⟨rfl,h0⟩|⟨g,cap,cur,rfl,hB,hb,hc,_⟩
 ·exact⟨none,0,by rw[List.length_map,h0],by rw[List.length_map,h0];exact Nat.le_refl _,.inl (by rw[List.length_eq_zero_iff.1 h0];rfl)⟩
 ·refine⟨_,_,by rw[List.length_map],by rw[List.length_map];exact hc,.inr ⟨g,0,rfl,(Array.getElem?_eq_some_iff.1 hb).1,fun i r hi=>?_⟩⟩;rw[List.getElem?_map]at hi;obtain⟨y,hy,rfl⟩:=Option.map_eq_some_iff.1 hi;have:=h.cells (g:=g) rfl i y.1 (by rw[List.getElem?_map,hy];rfl);have e:(⟨g,0,none⟩:Addr).add i=⟨g,0+i,none⟩:=by simp only[Addr.add,Nat.zero_add];split<;>simp_all
  rw[e]at this;exact⟨y.1,this,hs y (List.mem_of_getElem? hy)⟩
theorem mo(l:List Ob)(v:Value)(w:World)(hv:fm w v l)(hm:aZ l=true)(hsm:dZ l):Calls Tryz.prog 18 #[.agg #[v]] w fun e w'=>∃sv ov,e= .returned (.tuple #[sv,ov])∧Bd w' sv (dw l)∧DO w' ov ((af l).map (aB l))∧Below w.heap.size w w':=by
 obtain⟨i0,hi0,hz0,hz1,hz2⟩:=aM lX;have HI0:=aa hi0;have HZ0:=aa hz0;have HZ1:=aa hz1;have HZ2:=aa hz2;clear hi0 hz0 hz1 hz2;obtain⟨A0,c0,rfl,_,_⟩:=id hv.obs;have HM:=aa hm;have HSM:=aa hsm;have HLS:Hid ((bQ l).map Prod.snd=(af l).map (aB l)):=aa (by unfold bQ;rw[List.map_map];rfl);have hn240:(bQ l).length≤240:=by rw[fP];exact e9 hsm
 have ha:Below w.heap.size w (w.alloc (.cells #[.slice A0 l.length c0] 24)):=(Below.refl _ _).alloc (Nat.le_refl _) _;have hbx:=(cD (heap_alloc_new w (.cells #[.slice A0 l.length c0] 24))).1;have HOF:=aa (Bg l _ _ (hv.below ha));have HA:=aa ha;clear hv hm hsm ha;go_enter Tryz.func18,Tryz.ntmps18;go_wp2_with fail;refine HOF.out.mono ?_;rintro _ w2 ⟨hb2,hor⟩;obtain⟨pv,rfl,hpc⟩:∃pv,_=Ending.returned (.tuple #[pv,.bool true])∧CL w2 l pv:=by
  rcases hor with⟨h,_⟩|⟨_,h⟩
  ·rw[HM.out]at h;cases h
  ·exact h
 obtain⟨v2,bm,ml,rfl,hp1,hp2,hp3⟩:=hpc;obtain⟨A2,c2,rfl,_,_⟩:=id hp1.obs;have hb3:Below w2.heap.size w2 (w2.alloc (.cells #[.slice A2 l.length c2,.map (some bm)] 81)):=(Below.refl _ _).alloc (Nat.le_refl _) _;have hpb:=heap_alloc_new w2 (.cells #[.slice A2 l.length c2,.map (some bm)] 81);have HPC:=aa (fun W (hb:Below w2.heap.size w2 W)=>(⟨.slice A2 l.length c2,bm,ml,rfl,hp1.below hb,hp2.kept (aI hb) (by simp),hp3⟩:CL W l (.agg #[.slice A2 l.length c2,.map (some bm)])))
 have HLN:=aa (sU l HM.out HSM.out _ _ (HPC.out _ hb3));have HB3:=aa (aq (aq HA.out hb2) hb3);have HB23:=aa hb3;have HPB:=aa hpb;obtain⟨x0,x1⟩:=(aW hpb).1;clear hp1 hp2 hp3 hb3 hpb hb2 hor HOF hbx;go_wp2_with fail;refine HLN.out.mono ?_;rintro _ w4 ⟨lv,rfl,hls,hb4⟩;have HLV:=aa hls;obtain⟨A,c,rfl,hA⟩:=hls;have HAA:=aa hA;have HB4:=aa (aq HB3.out hb4);have HB24:=aa (aq HB23.out hb4);have HPB4:=aa (ai hb4 HPB.out);clear hA hb4 HB3 HB23 HPB HLN x0 x1;obtain⟨n,hn⟩:∃n,(bQ l).length=n:=⟨_,rfl⟩
 obtain⟨b2,hb2⟩:∃b2,w2.heap.size=b2:=⟨_,rfl⟩;rw[hn]at hn240 HLV ⊢;rw[hb2]at HPB4;have HN:=aa hn;clear hn;go_wp2_with fail;go_loopw [7,21] (fun vo i wr=>∃(C:List (Value×List BA))(Ao:Option Addr)(co:Nat),C.length≤n∧i= .int .i64 C.length∧vo= .slice Ao C.length co∧Hid (C.map Prod.snd=((bQ l).map Prod.snd).take C.length)∧Hid (∀x∈C,ff w4 x.1 x.2)∧Hid (wr.ownsRow w4.heap.size 39 1 (.slice Ao C.length co) C.length (C.map Prod.fst))∧Hid (Below w4.heap.size w4 wr)) (fun _ i _=>n-(intOf i).toNat)
 case atStart=>exact⟨[],none,0,Nat.zero_le _,rfl,rfl,rfl,fun x hx=>(by cases hx),World.ownsRow_nil _ _ _ _,Below.refl _ _⟩
 case round=>
  obtain⟨C,Ao,co,hk,rfl,rfl,hcs,hst,hro,hbw⟩:=hrel;obtain⟨k,hkk⟩:∃k,C.length=k:=⟨_,rfl⟩;by_cases hlt:C.length<n
  ·(have hlt2:C.length<(bQ l).length:=by rw[HN.out];exact hlt);obtain⟨g,o,rfl,hg,hp⟩:=HAA.out.resolve_left (by intro e;rw[e]at hlt2;simp at hlt2);obtain⟨ov,d0,d1,d2,hov⟩:=hp _ _ (List.getElem?_eq_getElem hlt2);have HCS9:Hid ((C++[(ov,(bQ l)[C.length].2)]).map Prod.snd=((bQ l).map Prod.snd).take (C.length+1)):=aa (by
    rw[List.map_append,hcs.out,List.take_add_one,List.getElem?_map,List.getElem?_eq_getElem hlt2];rfl)
   have HST9:Hid (∀x∈C++[(ov,(bQ l)[C.length].2)],ff w4 x.1 x.2):=aa (fun x hx=>by
    rcases List.mem_append.1 hx with hx|hx
    ·exact hst.out x hx
    ·simp at hx;rw[hx];exact hov)
   generalize (bQ l)[C.length]=x at*;obtain⟨⟨pa,pb⟩,ids⟩:=x;obtain⟨Av,cv,rfl,_⟩:=hov;simp only at d0 d1 d2 HCS9 HST9;replace d0:=(hbw.out.cell (p:=⟨g,_,none⟩) hg).trans d0;replace d1:=(hbw.out.cell (p:=⟨g,_,none⟩) hg).trans d1;replace d2:=(hbw.out.cell (p:=⟨g,_,none⟩) hg).trans d2;have hba:Below wr.heap.size wr (wr.alloc (.cells #[.string pa,.string pb,.slice Av ids.length cv] 91)):=(Below.refl _ _).alloc (Nat.le_refl _) _
   have hnb:=heap_alloc_new wr (.cells #[.string pa,.string pb,.slice Av ids.length cv] 91);obtain⟨wd,hwd⟩:∃wd,wr.alloc (.cells #[.string pa,.string pb,.slice Av ids.length cv] 91)=wd:=⟨_,rfl⟩;rw[hwd]at hba hnb;have e2:wd.cell? ⟨wr.heap.size,2,none⟩=some (.slice Av ids.length cv):=cell_of_row wd _ 2 _ _ _ hnb;have hbb:Below wd.heap.size wd (wd.alloc (.cells #[.slice Av ids.length cv] 39)):=(Below.refl _ _).alloc (Nat.le_refl _) _;have HRO:=aa (ao hro.out (aq hba hbb))
   have HBW:=aa (aq hbw.out (aq hba hbb));have HL:=aa hlt;have HMS:=aa (show n-(C.length+1)<n-C.length from by omega);have hc240:C.length≤240:=O9;have k0:(0:Int)≤(C.length:Nat):=O9;have k1:((C.length:Nat):Int)<(n:Nat):=O9;clear hcs hst hro hbw hlt hlt2 hp hba hnb hbb hkk hk
   go_wp2_with (at_builtin;go_must (refine wpList_append_lies _ rfl (.tmp 25) (.tmp 28) 40 rfl w4.heap.size 39 i0 (.slice none 0 0) 1 24 Tryz.underlying40 HI0.out HZ0.out HZ1.out HZ2.out rfl (by decide) (.slice Ao C.length co) C.length (C.map Prod.fst) rfl ?c0 ⟨wd.heap.size,0,none⟩ 1 1 [.slice Av ids.length cv] rfl rfl ?c1 ?c2 (by decide) ?c3 ?c4 ?c5 (wd.heap.size+1) ?c6 ?_))
   case c0=>exact HRO.out
   case c2=>rfl
   case c3=>unfold maxLen;omega
   case c4=>omega
   case c5=>simpa using HBW.out.size
   intro g9 cap w9 hown9 hgrow9 hat9 _;have HLE9:=aa (show Value.slice (some ⟨g9,0,none⟩) (C.length+1) cap= .slice (some ⟨g9,0,none⟩) (C++[((.slice Av ids.length cv:Value),ids)]).length cap by simp);have HRO9:Hid (w9.ownsRow w4.heap.size 39 1 (.slice (some ⟨g9,0,none⟩) (C++[((.slice Av ids.length cv:Value),ids)]).length cap) (C++[((.slice Av ids.length cv:Value),ids)]).length ((C++[((.slice Av ids.length cv:Value),ids)]).map Prod.fst)):=by
    rw[←HLE9.out,List.length_append,List.map_append];exact aa hown9
   have HBW9:=aa (ak HBW.out hgrow9 (fun r hr=>(aj HRO.out hr).1));have HLN9:Hid ((C++[((.slice Av ids.length cv:Value),ids)]).length=C.length+1):=aa (by simp);clear hown9 hgrow9 hat9 HRO HBW hwd e2 d0 d1 d2;go_wp2_with fail;refine⟨⟨C++[((.slice Av ids.length cv:Value),ids)],some ⟨g9,0,none⟩,cap,by rw[HLN9.out];exact HL.out,by rw[HLN9.out];go_num,HLE9.out,by rw[HLN9.out];exact HCS9,HST9,HRO9,HBW9⟩,?_⟩;have:=HMS.out;simp[intOf];omega
  ·(have hCn:C.length=n:=by omega);have HGR:Hid (DO wr (.slice Ao C.length co) ((af l).map (aB l))):=aa (by
    have h1:=zt hro.out (fun x hx=>(hst.out x hx).below hbw.out);rw[hcs.out,hCn,←HN.out,List.take_of_length_le (by rw[List.length_map];exact Nat.le_refl _),HLS.out]at h1;rw[hCn,←HN.out];exact h1)
   have HSG:=aa (nQ l (bP HM.out) _ _ (bQ l) (xj HSM.out) (by rw[HN.out];omega) wr (HPC.out wr (aq HB24.out hbw.out)) (HLV.out.below hbw.out));have HBR:=aa (aq HB4.out hbw.out);obtain⟨x0,x1⟩:=(aW (ai hbw.out HPB4.out)).1;have k1:¬(C.length:Int)<(n:Nat):=O9;clear hro hbw hst hcs hlt hCn hk hkk;go_wp2_with fail;refine HSG.out.mono ?_;rintro _ w6 ⟨sv,rfl,hsv,hb6⟩;have HSV:=aa hsv;have HOV:=aa (HGR.out.below hb6);have HB6:=aa (aq HBR.out hb6);clear hsv hb6 HSG x0 x1;go_wp2_with fail;go_ret2
   exact⟨_,_,rfl,by rw[←qY];exact HSV.out,HOV.out,HB6.out⟩
