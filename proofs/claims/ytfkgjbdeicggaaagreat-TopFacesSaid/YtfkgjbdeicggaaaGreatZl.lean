/-
  border.Check.
-/
import Derived.Test.YtfkgjbdeicggaaaGreatZc
set_option maxHeartbeats 16000000
set_option maxRecDepth 100000
namespace Go.Proofs.YtfkgjbdeicggaaaGreat
open Go.RowKit Go.Proofs.Px Go.Proofs.Pn Go.Proofs.Pm Go.Proofs.Pg Go.Proofs.Pto
attribute [local go_sem] Oper.semAt_some run_makeMap eh ehx
theorem Hb{K:Type}[DecidableEq K]{B:Nat}{rows:List (Rw K)}{W:World}{G:K→List BA}(hs:uO B (rows.map Prod.snd) W)(hr:bW rows G)(p:K):
  ∃pre post v0,(aJ (keyed rows) p).getD (.slice none 0 0)=v0∧ff W v0 (G p)∧uO B (pre.map Prod.snd++(v0,G p)::post.map Prod.snd) W∧∀v' s,bW (pre++(p,v',G p++[s])::post) (fun q=>if q=p then G p++[s]else G q)∧cR (keyed rows) p v'=keyed (pre++(p,v',G p++[s])::post)∧(pre++(p,v',G p++[s])::post).length≤rows.length+1:=by
 rcases hr.look p with⟨h1,h2⟩|⟨pre,x,post,rfl,hxp,hx2,hne,h3⟩
 ·have hsr:uO B (rows.map Prod.snd++((.slice none 0 0:Value),([]:List BA))::([]:List (Rw K)).map Prod.snd) W:=by
   refine⟨fun x hx=>?_,?_⟩
   ·rcases List.mem_append.1 hx with hx|hx
    ·exact hs.row x hx
    ·simp at hx;rw[hx];exact World.ownsRow_nil _ _ _ _
   ·refine List.pairwise_append.2 ⟨hs.ne,List.pairwise_singleton _ _,fun x _ y hy b _=>?_⟩;simp at hy;rw[hy];simp[Value.ownBlock]
  refine⟨rows,[],.slice none 0 0,by rw[h2];rfl,by rw[h1];exact⟨none,0,rfl,Nat.le_refl _,.inl rfl⟩,by rw[h1];exact hsr,fun v' s=>?_⟩;obtain⟨r1,r2⟩:=hr.add h1 v' s;rw[h1,List.nil_append];rw[h1,List.nil_append]at r1;exact⟨r1,r2,by simp⟩
 ·have hsr:=hs;rw[List.map_append,List.map_cons]at hsr;have hx:x.2=(x.2.1,G p):=by rw[←hx2]
  rw[hx]at hsr;refine⟨pre,post,x.2.1,by rw[h3];rfl,cT (hsr.row _ (List.mem_append_right _ (List.mem_cons_self ..))) rfl,hsr,fun v' s=>?_⟩;obtain⟨r1,r2⟩:=hr.set hxp v' s;exact⟨r1,r2,by simp⟩
structure xv(w0:World)(bl:List (Pr×Value))(rows:List (Rw Pt))(W:World):Prop where
 below:Below w0.heap.size w0 W
 box:W.heap[w0.heap.size+1]? =some (.cells #[.map (some w0.heap.size)] 86 (0,0))
 bad:xc W w0.heap.size bl
 pts:nN W (w0.heap.size+1+1) (keyed rows)
 sr:uO w0.heap.size (rows.map Prod.snd) W
theorem xv.lift{w0:World}{bl:List (Pr×Value)}{rows:List (Rw Pt)}{W W':World}(h:xv w0 bl rows W)(hb:Below W.heap.size W W'):xv w0 bl rows W':=
 ⟨aq h.below hb,ai hb h.box,h.bad.kept (aI hb) (by simp),h.pts.kept (aI hb) (by simp),h.sr.kept (aI hb) (fun _ _ _ _=>by simp)⟩
theorem xv.noted{w0:World}{bl bl':List (Pr×Value)}{rows:List (Rw Pt)}{W W':World}(h:xv w0 bl rows W)(hm:xc W' w0.heap.size bl')(hg:W.grownBy W' (some w0.heap.size)):xv w0 bl' rows W':=
 ⟨ak h.below hg (fun r hr=>by cases hr;exact Nat.le_refl _),(hg.block _ (lt_of_block h.box) (by simp)).trans h.box,hm,h.pts.kept hg (by simp;omega),h.sr.kept hg (fun x hx b hb e=>aH (h.sr.row x hx) (aC h.bad) (by rw[hb];exact e.symm))⟩
structure xW(w0:World)(E:List (BA×Pt))(bl:List (Pr×Value))(rows:List (Rw Pt))(G:Pt→List BA)(N:Pr→Prop)(W:World):Prop where
 mem:xv w0 bl rows W
 rel:bW rows G
 ati:EL E G N
 bad:kU bl N
 bll:bl.length≤480*E.length
 gl:∀p,(G p).length≤E.length
 rl:rows.length≤E.length
theorem xW.lift{w0:World}{E:List (BA×Pt)}{bl:List (Pr×Value)}{rows:List (Rw Pt)}{G:Pt→List BA}{N:Pr→Prop}{W W':World}(h:xW w0 E bl rows G N W)(hb:Below W.heap.size W W'):xW w0 E bl rows G N W':=
 ⟨h.mem.lift hb,h.rel,h.ati,h.bad,h.bll,h.gl,h.rl⟩
theorem xW.old{w0:World}{E:List (BA×Pt)}{bl:List (Pr×Value)}{rows:List (Rw Pt)}{G:Pt→List BA}{N:Pr→Prop}{W:World}(h:xW w0 E bl rows G N W){s:BA}{p:Pt}(hs:s∈G p):xW w0 (E++[(s,p)]) bl rows G N W:=
 ⟨h.mem,h.rel,h.ati.old hs,h.bad,by have:=h.bll;simp;omega,fun q=>by have:=h.gl q;simp;omega,by have:=h.rl;simp;omega⟩
def mf(l:List Ob)(P:List Pr)(p:Pr)(j:Nat):List (BA×Pt):=iG l P++[(p.1,ar l p.1),(p.2,ar l p.2)].take j
theorem De(l:List Ob)(P:List Pr)(p:Pr):mf l P p 0=iG l P:=by simp[mf]
theorem FO(l:List Ob)(P:List Pr)(p:Pr):mf l P p 2=iG l (P++[p]):=by simp[mf,iG]
def pF(p:Pr)(j:Nat):BA:=if j=0 then p.1 else p.2
theorem Df(l:List Ob)(P:List Pr)(p:Pr)(j:Nat)(hj:j<2):mf l P p (j+1)=mf l P p j++[(pF p j,ar l (pF p j))]:=by
 rcases(show j=0∨j=1 by omega)with rfl|rfl<;>simp[mf,pF]
theorem FP(l:List Ob)(P:List Pr)(p:Pr)(j:Nat)(hj:j≤2):(mf l P p j).length=2*P.length+j:=by
 unfold mf;rw[List.length_append,sA,List.length_take];simp;omega
theorem FQ:(Tryz.prog.info? 3).map (fun i=>(i.zero,i.size,i.bytes))=some (some (.int .i64 0),1,8):=K9
def xw(k:Nat):List Value:=(List.range k).map (fun i=>Value.int .i64 (i:Nat))
theorem Dg(k:Nat):xw (k+1)=xw k++[.int .i64 (k:Nat)]:=by simp[xw,List.range_succ]
theorem zK{W:World}{B n c:Nat}{A:Option Addr}(h:W.ownsRow B 3 1 (.slice A n c) n (xw n)):CV W (.slice A n c) n:=by
 rcases h.2 with⟨hv,hn⟩|⟨g,cap,cur,hv,_,hb,_⟩
 ·exact⟨A,c,rfl,.inl hn⟩
 ·cases hv;refine⟨_,_,rfl,.inr ⟨g,0,rfl,(Array.getElem?_eq_some_iff.1 hb).1,fun k hk=>?_⟩⟩;have:=h.cells (g:=g) rfl k (.int .i64 (k:Nat)) (by simp[xw,hk]);have e:(⟨g,0,none⟩:Addr).add k=⟨g,0+k,none⟩:=by simp only[Addr.add,Nat.zero_add];split<;>simp_all
  rw[←e];exact this
theorem xv.far{w0:World}{bl:List (Pr×Value)}{rows:List (Rw Pt)}{W W':World}{r:Nat}(h:xv w0 bl rows W)(hg:W.grownBy W' (some r))(hr:w0.heap.size+1+1<r)(hm:∀x∈rows,∀b,x.2.1.ownBlock=some b→b≠r):xv w0 bl rows W':=
 ⟨ak h.below hg (fun r' hr'=>by cases hr';omega),(hg.block _ (lt_of_block h.box) (by simp;omega)).trans h.box,h.bad.kept hg (by simp;omega),h.pts.kept hg (by simp;omega),h.sr.kept hg (fun x hx b hb e=>by
  obtain⟨y,hy,rfl⟩:=List.mem_map.1 hx;exact hm y hy b hb (Option.some.inj e).symm)⟩
theorem Dh{w:World}{g:Nat}{a b c:Value}{t:TypeId}(h:w.heap[g]? =some (.cells #[a,b,c] t (0,0))):(w.cell? ⟨g,0,none⟩=some a∧w.cell? ⟨g,1,none⟩=some b∧w.cell? ⟨g,2,none⟩=some c)∧(w.frozen? ⟨g,0,none⟩=false∧w.frozen? ⟨g,1,none⟩=false∧w.frozen? ⟨g,2,none⟩=false):=
 ⟨⟨cell_of_row w g 0 _ t _ h,cell_of_row w g 1 _ t _ h,cell_of_row w g 2 _ t _ h⟩,frozen_of_row w g 0 _ t h,frozen_of_row w g 1 _ t h,frozen_of_row w g 2 _ t h⟩
theorem FR{W:World}{g:Nat}{a b:BA}{v:Value}{t:TypeId}(h:W.heap[g]? =some (.cells #[.string a,.string b,v] t (0,0))):ff W (.slice (some ⟨g,0,none⟩) 2 2) [a,b]:=by
 obtain⟨⟨h0,h1,_⟩,_⟩:=Dh h;refine⟨_,2,rfl,Nat.le_refl _,.inr ⟨g,0,rfl,(Array.getElem?_eq_some_iff.1 h).1,fun i s hi=>?_⟩⟩;rcases i with _|_|i
 ·simp at hi;rw[←hi];exact h0
 ·simp at hi;rw[←hi];exact h1
 ·simp at hi
theorem FT{l:List Ob}{m:Mt}{a b:Pr}(ha:(af l)[m.a]? =some a)(hb:(af l)[m.b]? =some b)(q:Pr):badM l m q↔¬(m.kind=1∧qw a b)∧∃x∈aB l a,∃y∈aB l b,q=bC (x,y):=by
 unfold badM;constructor
 ·rintro⟨a',b',ha',hb',h⟩;rw[ha]at ha';rw[hb]at hb';cases ha';cases hb';exact h
 ·intro h;exact⟨a,b,ha,hb,h⟩
theorem jl{l:List Ob}(h:dZ l){p:Pr}{s:BA}(hs:s∈aB l p):s.size≤60:=by
 unfold aB at hs;rw[iH]at hs;obtain⟨o,ho,_,rfl⟩:=hs;exact(h.2 o ho).1
theorem ri{l:List Ob}(h:dZ l)(p:Pr):(aB l p).length≤20:=Nat.le_trans (kT l l p) h.1
theorem Di:(Tryz.prog.info? 101).map (fun i=>(i.zero,i.size,i.bytes))=some (some (.agg #[.string ⟨#[]⟩,.int .i64 0,.slice none 0 0]),3,48):=K9
theorem th{l:List Ob}(h:dZ l){p:Pr}{s:BA}(hp:p∈af l)(he:fj p s):s.size≤60:=by
 have:=bO h hp;rcases he with rfl|rfl
 ·exact this.1
 ·exact this.2
theorem FU{l:List Ob}(h:dZ l){q:Pr}(hq:jX l q):iI q:=by
 rcases hq with⟨p,hp,p',hp',s,t,h1,h2,_,_,rfl⟩|⟨i,k,a,b,_,ha,hb,_,_,x,hx,y,hy,rfl⟩
 ·exact oU (by have:=th h hp h1;omega) (by have:=th h hp' h2;omega)
 ·exact oU (by have:=jl h hx;omega) (by have:=jl h hy;omega)
theorem Hc{w0 w5 w6 w7:World}{Ao:Option Addr}{co:Nat}{V:List Vl}{v:Value}{L:List BA}(hb6:Below w5.heap.size w5 w6)(hg7:w6.grownBy w7 (some w5.heap.size))
  (hro:w5.ownsRow w0.heap.size 101 3 (.slice Ao V.length co) V.length (V.flatMap kh))(hid:∀x∈V,mq w5 x.1 x.2)(hn:mq w7 v L)(hb:Below w0.heap.size w0 w5):
  (w7.alloc (.cells #[.string ⟨#[]⟩,.int .i64 2,v] 101)).ownsRow w0.heap.size 101 3 (.slice Ao V.length co) V.length (V.flatMap kh)∧(∀x∈V,mq (w7.alloc (.cells #[.string ⟨#[]⟩,.int .i64 2,v] 101)) x.1 x.2)∧Below w0.heap.size w0 (w7.alloc (.cells #[.string ⟨#[]⟩,.int .i64 2,v] 101))∧mq (w7.alloc (.cells #[.string ⟨#[]⟩,.int .i64 2,v] 101)) v L:=by
 have hg57:w5.grownBy w7 (some w5.heap.size):=bt ((aI hb6).but _) hg7;have hba:Below w7.heap.size w7 (w7.alloc (.cells #[.string ⟨#[]⟩,.int .i64 2,v] 101)):=(Below.refl _ _).alloc (Nat.le_refl _) _;refine⟨ao (bG hro hg57 (fun b h e=>?_)) hba,fun x hx=>((hid x hx).fresh hg57 (Nat.le_refl _)).kept (aI hba) (fun r e=>by cases e),aq (ak hb hg57 (fun r e=>by cases e;exact hb.size)) hba,hn.kept (aI hba) (fun r e=>by cases e)⟩;obtain⟨_,cur,hc⟩:=bK hro h;have:=lt_of_block hc;cases e;omega
theorem FV{w0 W w9:World}{Ao:Option Addr}{co:Nat}{V:List Vl}{v:Value}{L:List BA}(hro:W.ownsRow w0.heap.size 101 3 (.slice Ao V.length co) V.length (V.flatMap kh))(hid:∀x∈V,mq W x.1 x.2)(hb:Below w0.heap.size w0 W)(hn:mq W v L)
  (hg:W.grownBy w9 (Value.slice Ao V.length co).ownBlock):(∀x∈V++[(v,L)],mq w9 x.1 x.2)∧Below w0.heap.size w0 w9:=by
 have key:∀r,(Value.slice Ao V.length co).ownBlock=some r→∀a b:BA,W.heap[r]? ≠some (.cells #[.string a,.string b] 87 (0,0)):=fun r e a b hh=>by
  obtain⟨_,cur,hc⟩:=bK hro e;rw[hh]at hc;cases hc
 refine⟨fun x hx=>?_,ak hb hg (fun r hr=>(aj hro hr).1)⟩;rcases List.mem_append.1 hx with hx|hx
 ·exact(hid x hx).kept hg key
 ·simp at hx;rw[hx];exact hn.kept hg key
theorem zL{w5 w6 w7 w9:World}{B b r ja:Nat}{o:Obj}{bl:List (Pr×Value)}{left:Pr→Bool}{v:Value}{n:Nat}{xs:List Value}(h:bD (kS Tryz.prog 87 (Maps.Keyed.of_law fu) iV) w5 b r bl left ja)(hb6:Below w5.heap.size w5 w6)(hg7:w6.grownBy w7 (some w5.heap.size))
  (h1:b<w5.heap.size)(h2:r<w5.heap.size)(hro:(w7.alloc o).ownsRow B 101 3 v n xs)(hg:(w7.alloc o).grownBy w9 v.ownBlock):bD (kS Tryz.prog 87 (Maps.Keyed.of_law fu) iV) w9 b r bl left ja:=by
 have hg57:w5.grownBy w7 (some w5.heap.size):=bt ((aI hb6).but _) hg7;have hba:Below w7.heap.size w7 (w7.alloc o):=(Below.refl _ _).alloc (Nat.le_refl _) _;have k1:=(h.kept hg57 (fun e=>by have:=Option.some.inj e;omega) (fun e=>by have:=Option.some.inj e;omega)).kept (aI hba) (by simp) (by simp);exact k1.kept hg (fun e=>aH hro (aC k1.map) e.symm) (fun e=>bZ hro (dh k1) e.symm)
theorem ti(a:Pr)(h:iI a)(D:Nat):Tryz.prog.keyLits (D+2) 87 (uN a).cells.toList=some [.string a.1.data.toList,.string a.2.data.toList]:=by
 have hf:a.1.size≤maxLen:=Nat.le_trans h.1 (by unfold maxLen;omega);have ht:a.2.size≤maxLen:=Nat.le_trans h.2 (by unfold maxLen;omega);simp[uN,Program.keyLits,Tryz.underlying87,Tryz.underlying9,gJ,j8,Value.cells,hf,ht,List.range,List.range.loop]
theorem pG(a:Pr):(uN a).formed Tryz.prog 87=true:=by
 simp[uN,Value.formed,Tryz.underlying87,j8]
theorem Dj(a b:Pr)(ha:iI a)(hb:iI b)(h:a≠b)(w:World):(Op.equalIn 10000 87 (.agg #[.string a.1,.string a.2]) (.agg #[.string b.1,.string b.2])).run Tryz.prog w= .ok false w:=by
 obtain⟨r,hr,hi⟩:=run_equalIn_deep (P:=Tryz.prog) 9997 3 87 K9 w 2 2 (uN a) (uN b) _ _ (pG a) (pG b) (ti a ha 0) (ti b hb 0);have:r=false:=by
  cases r with
  |false=>rfl
  |true=>
   have:=hi.1 rfl;simp only[List.cons.injEq,Lit.string.injEq,and_true]at this;exact absurd (Prod.ext (ByteArray.ext (Array.toList_inj.1 this.1)) (ByteArray.ext (Array.toList_inj.1 this.2))) h
 rw[this]at hr;exact hr
theorem Hd(a b:Pr):(dr a.1 [b.1,b.2]||dr a.2 [b.1,b.2])=true↔qw a b:=by
 simp[fW,qw,fj]
theorem tj(l:List Ob)(v:Value)(w:World)(hv:fm w v l)(hm:aZ l=true)(hsm:dZ l):Calls Tryz.prog 8 #[.agg #[v]] w fun e w'=>∃(Q:List Pr)(A:Option Addr)(c:Nat),e= .returned (.slice A Q.length c)∧Q.Nodup∧(∀q,q∈Q↔jX l q)∧Below w.heap.size w w':=by
 obtain⟨j0s,hj,hy0,hy1,hy2⟩:=aM dM;have HJ0:=aa hj;have HY0:=aa hy0;have HY1:=aa hy1;have HY2:=aa hy2;clear hj hy0 hy1 hy2;obtain⟨A0,c0,rfl,_,_⟩:=id hv.obs;have HM:=aa hm;have HSM:=aa hsm;have hn240:(bQ l).length≤240:=by rw[fP];exact e9 hsm
 have ha:Below w.heap.size w (w.alloc (.cells #[.slice A0 l.length c0] 24)):=(Below.refl _ _).alloc (Nat.le_refl _) _;have hbx:=(cD (heap_alloc_new w (.cells #[.slice A0 l.length c0] 24))).1;have HOF:=aa (Bg l _ _ (hv.below ha));have HA:=aa ha;clear hv hm hsm ha;go_enter Tryz.func8,Tryz.ntmps8;go_wp2_with fail;refine HOF.out.mono ?_;rintro _ w2 ⟨hb2,hor⟩;obtain⟨pv,rfl,hpc⟩:∃pv,_=Ending.returned (.tuple #[pv,.bool true])∧CL w2 l pv:=by
  rcases hor with⟨h,_⟩|⟨_,h⟩
  ·rw[HM.out]at h;cases h
  ·exact h
 obtain⟨v2,bm,ml,rfl,hp1,hp2,hp3⟩:=hpc;obtain⟨A2,c2,rfl,_,_⟩:=id hp1.obs;have hb3:Below w2.heap.size w2 (w2.alloc (.cells #[.slice A2 l.length c2,.map (some bm)] 81)):=(Below.refl _ _).alloc (Nat.le_refl _) _;have hpb:=heap_alloc_new w2 (.cells #[.slice A2 l.length c2,.map (some bm)] 81);have HPC:=aa (fun W (hb:Below w2.heap.size w2 W)=>(⟨.slice A2 l.length c2,bm,ml,rfl,hp1.below hb,hp2.kept (aI hb) (by simp),hp3⟩:CL W l (.agg #[.slice A2 l.length c2,.map (some bm)])))
 have HLN:=aa (sU l HM.out HSM.out _ _ (HPC.out _ hb3));have HB3:=aa (aq (aq HA.out hb2) hb3);have HB23:=aa hb3;have HPB:=aa hpb;obtain⟨x0,x1⟩:=(aW hpb).1;clear hp1 hp2 hp3 hb3 hpb hb2 hor HOF hbx;go_wp2_with fail;refine HLN.out.mono ?_;rintro _ w0 ⟨lv,rfl,hls,hb4⟩;have HLV:=aa hls;obtain⟨A,c,rfl,hAA⟩:=hls;have HAA:=aa hAA;have HB4:=aa (aq HB3.out hb4);have HB24:=aa (aq HB23.out hb4);have HPB4:=aa (ai hb4 HPB.out);clear hAA hb4 HB3 HB23 HPB HLN x0 x1;obtain⟨n,hn⟩:∃n,(bQ l).length=n:=⟨_,rfl⟩
 have HN:=aa hn;rw[hn]at hn240 HLV ⊢;clear hn;obtain⟨b2,hb2⟩:∃b2,w2.heap.size=b2:=⟨_,rfl⟩;rw[hb2]at HPB4;obtain⟨W0,hW0⟩:∃W0,((w0.alloc (.map #[] 0)).alloc (.cells #[.map (some w0.heap.size)] 86)).alloc (.map #[] 0)=W0:=⟨_,rfl⟩;have HCK:Hid (xW w0 (iG l []) [] [] (fun _=>[]) (fun _=>False) W0):=by
  have hbb:Below w0.heap.size w0 W0:=by rw[←hW0];exact(((Below.refl _ _).alloc (Nat.le_refl _) _).alloc (by simp) _).alloc (by simp;omega) _
  have h1:=heap_alloc_new (w0.alloc (.map #[] 0)) (.cells #[.map (some w0.heap.size)] 86);rw[World.size_alloc]at h1;have h2:nN W0 (w0.heap.size+1+1) []:=by
   rw[←hW0];have:=cK (ptKeys Tryz.prog 44 (Maps.Keyed.of_law oT) sS) ((w0.alloc (.map #[] 0)).alloc (.cells #[.map (some w0.heap.size)] 86));simpa using this
  refine aa ⟨⟨hbb,?_,?_,h2,⟨fun x hx=>(by cases hx),List.Pairwise.nil⟩⟩,oL,EL.nil,kU.nil,Nat.zero_le _,fun _=>Nat.le_refl _,Nat.le_refl _⟩
  ·rw[←hW0];exact ai ((Below.refl _ _).alloc (Nat.le_refl _) _) h1
  ·rw[←hW0];exact((cK _ w0).alloc _).alloc _
 have HW0:=aa hW0;clear hW0;have hmf:∀(fn:Fn)(first cap:Array Value)(w:World),(Instr.makeFunc fn first cap).run Tryz.prog w= .ok (.func fn first cap) w:=fun _ _ _ _=>rfl;go_upto_block 0 with(fail);rw[HW0.out];clear HW0;go_cut [] (fun wx=>∃(bl:List (Pr×Value))(rows:List (Rw Pt))(G:Pt→List BA)(N:Pr→Prop),Hid (xW w0 (iG l (af l)) bl rows G N wx))
 case first=>
  go_wp2_with fail;go_loopw [44] (fun i wr=>∃(k:Nat)(bl:List (Pr×Value))(rows:List (Rw Pt))(G:Pt→List BA)(N:Pr→Prop),k≤n∧i= .int .i64 k∧Hid (xW w0 (iG l ((af l).take k)) bl rows G N wr)) (fun i _=>n-(intOf i).toNat)
  case atStart=>exact⟨0,[],[],_,_,Nat.zero_le _,rfl,HCK⟩
  case round=>
   clear HCK;obtain⟨k,bl,rows,G,N,hk,rfl,hck⟩:=hrel;by_cases hlt:k<n
   ·(have hlt2:k<(bQ l).length:=by rw[HN.out];exact hlt);(have hlt3:k<(af l).length:=by rw[←fP];exact hlt2);obtain⟨g,o,rfl,hg,hp⟩:=HAA.out.resolve_left (by intro e;rw[e]at hlt2;simp at hlt2);obtain⟨ov,d0,d1,d2,hov⟩:=hp _ _ (List.getElem?_eq_getElem hlt2);(have hln:(bQ l)[k]=((af l)[k],aB l (af l)[k]):=by simp[bQ]);rw[hln]at d0 d1 hov;have HNS:=aa (bO HSM.out (List.getElem_mem hlt3));have HNN:=aa (dG (List.getElem_mem hlt3))
    have HTK:Hid ((af l).take (k+1)=(af l).take k++[(af l)[k]]):=aa (by rw[List.take_add_one,List.getElem?_eq_getElem hlt3];rfl);have HTL:Hid (((af l).take k).length=k):=aa (by rw[List.length_take];omega);generalize (af l)[k]=x at*;obtain⟨pa,pb⟩:=x;obtain⟨Av,cv,rfl,_⟩:=hov;simp only at d0 d1 d2;replace d0:=(hck.out.mem.below.cell (p:=⟨g,_,none⟩) hg).trans d0;replace d1:=(hck.out.mem.below.cell (p:=⟨g,_,none⟩) hg).trans d1;replace d2:=(hck.out.mem.below.cell (p:=⟨g,_,none⟩) hg).trans d2
    have hba:Below wr.heap.size wr (wr.alloc (.cells #[.string pa,.string pb,.slice Av (aB l (pa,pb)).length cv] 91)):=(Below.refl _ _).alloc (Nat.le_refl _) _;have hnb:=heap_alloc_new wr (.cells #[.string pa,.string pb,.slice Av (aB l (pa,pb)).length cv] 91);have HC1:=aa (hck.out.lift hba)
    obtain⟨e0,e1⟩:(wr.alloc (.cells #[.string pa,.string pb,.slice Av (aB l (pa,pb)).length cv] 91)).cell? ⟨wr.heap.size,0,none⟩=some (.string pa)∧(wr.alloc (.cells #[.string pa,.string pb,.slice Av (aB l (pa,pb)).length cv] 91)).cell? ⟨wr.heap.size,1,none⟩=some (.string pb):=⟨cell_of_row _ _ 0 _ _ _ hnb,cell_of_row _ _ 1 _ _ _ hnb⟩;have k0:(0:Int)≤k:=O9;have k1:(k:Int)<(n:Nat):=O9;have HL:=aa hlt;have HMS:=aa (show n-(k+1)<n-k from by omega);clear hck hlt hlt2 hlt3 hp hln hba hnb;go_wp2_with fail
    generalize wr.alloc _=wd at*;clear d0 d1 d2 e0 e1;have HC2:Hid (xW w0 (mf l ((af l).take k) (pa,pb) 0) bl rows G N wd):=aa (by rw[De];exact HC1.out);clear HC1;go_loopw [50] (fun i wr=>∃(j:Nat)(bl:List (Pr×Value))(rows:List (Rw Pt))(G:Pt→List BA)(N:Pr→Prop),j≤2∧i= .int .i64 j∧Hid (xW w0 (mf l ((af l).take k) (pa,pb) j) bl rows G N wr)) (fun i _=>2-(intOf i).toNat)
    case atStart=>exact⟨0,bl,rows,G,N,O9,rfl,HC2⟩
    case round=>
     clear HC2;obtain⟨j,bl,rows,G,N,hj,rfl,hck⟩:=hrel;by_cases hjl:j<2
     ·have hix:∀W:World,(Instr.index 87 (.agg #[.string pa,.string pb]) (.int .i64 (j:Nat))).run Tryz.prog W= .ok (.string (pF (pa,pb) j)) W:=fun W=>by
       rcases(show j=0∨j=1 by omega)with rfl|rfl
       ·kernel_rfl
       ·kernel_rfl
      have HEJ:=aa (Df l ((af l).take k) (pa,pb) j hjl);have HEL:=aa (FP l ((af l).take k) (pa,pb) j O9);have hss:(pF (pa,pb) j).size≤60∧isNode l (pF (pa,pb) j)=true:=by
       have h1:=HNS.out;have h2:=HNN.out;unfold pF;split
       ·exact⟨h1.1,h2.1⟩
       ·exact⟨h1.2,h2.2⟩
      generalize pF (pa,pb) j=s at*;rw[HTL.out]at HEL;have HSS:=aa hss;have HPT:=aa (sW l (bP HM.out) _ s O9 hss.2 wr (HPC.out wr (aq HB24.out hck.out.mem.below)));have HOK:Hid (nx (ar l s)):=aa (by have:=gF HM.out hss.2;unfold nx;omega);generalize ar l s=pt at*;obtain⟨px,py⟩:=pt;simp only at HPT;obtain⟨x0,x1⟩:=(aW (ai hck.out.mem.below HPB4.out)).1;have HJ:=aa hjl;have HC:=aa hck.out;have j0:(0:Int)≤(j:Nat):=O9;have j1:((j:Nat):Int)<2:=O9;have hkn:k≤240:=O9;clear hck hjl hss;go_wp2_with fail
      refine HPT.out.mono ?_;rintro _ w5 ⟨rfl,hb5⟩;have hbq:Below w5.heap.size w5 (w5.alloc (.cells #[.int .i64 px,.int .i64 py] 44)):=(Below.refl _ _).alloc (Nat.le_refl _) _;have hqb:=heap_alloc_new w5 (.cells #[.int .i64 px,.int .i64 py] 44);have HC5:=aa (HC.out.lift (aq hb5 hbq));have HQ5:=aa hqb;obtain⟨q0,q1⟩:=(aW hqb).1;obtain⟨pre,post,v0,hv0,hstv,hsr,hput⟩:=Hb HC5.out.mem.sr HC5.out.rel ⟨px,py⟩;have hlook:=HC5.out.mem.pts.look Tryz.underlying89 ee (x:=⟨px,py⟩) HOK.out;rw[hv0]at hlook
      change (Instr.lookup 89 (.map (some (w0.heap.size+1+1))) (.agg #[.int .i64 px,.int .i64 py]) false).run Tryz.prog _=_ at hlook;have hgl:=HC5.out.gl ⟨px,py⟩;rw[HEL.out]at hgl;have HCT:=aa (eB _ v0 (G ⟨px,py⟩) s hstv O9);have HHA:Hid (dr s (G ⟨px,py⟩)=true↔s∈G ⟨px,py⟩):=aa (fW _ _);obtain⟨Av2,cv2,hve,_⟩:=id hstv;subst hve;obtain⟨hb,hhb⟩:∃hb,dr s (G ⟨px,py⟩)=hb:=⟨_,rfl⟩;rw[hhb]at HCT HHA;have HSR:=aa hsr;have HPUT:=aa hput;have HV0:=aa hv0;have HGL:=aa hgl
      clear hstv hsr hput hv0 hhb hb5 hbq hqb x0 x1 HC HPT hgl hix;go_wp2_with fail;refine HCT.out.mono ?_;rintro _ _ ⟨rfl,rfl⟩;obtain⟨qb,hqb⟩:∃qb,w5.heap.size=qb:=⟨_,rfl⟩;rw[hqb]at HQ5 q0 q1;generalize w5.alloc _=wq at*;clear HCT;cases hb with
      |true=>
       have HC6:Hid (xW w0 (mf l ((af l).take k) (pa,pb) (j+1)) bl rows G N wq):=aa (by rw[HEJ.out];exact HC5.out.old (HHA.out.1 rfl));go_wp2_with fail;refine⟨⟨j+1,bl,rows,G,N,by have:=HJ.out;omega,by go_num,HC6⟩,?_⟩;have:=HJ.out;simp[intOf];omega
      |false=>
       have HNI:Hid (s∉G ⟨px,py⟩):=aa (fun e=>by have:=HHA.out.2 e;cases this);obtain⟨L0,hL0⟩:∃L0,G ⟨px,py⟩=L0:=⟨_,rfl⟩;have HL0:=aa hL0;rw[hL0]at HGL HV0 HSR HPUT hlook ⊢;clear hL0 HHA;have hpp:∀o∈L0,o.size≤60:=fun o ho=>by
        rw[←HL0.out,HC5.out.ati.mem]at ho;unfold mf at ho;rw[List.mem_append]at ho;rcases ho with ho|ho
        ·obtain⟨⟨p,hp,he⟩,_⟩:=(jC l _ _).1 ho;have:=bO HSM.out (List.mem_of_mem_take hp);rcases he with h|h
         ·simp only at h;rw[h];exact this.1
         ·simp only at h;rw[h];exact this.2
        ·have:=List.mem_of_mem_take ho;simp at this;rcases this with⟨rfl,_⟩|⟨rfl,_⟩
         ·exact HNS.out.1
         ·exact HNS.out.2
       have HPP:=aa hpp;have HSI:=aa HC5.out.mem;have HBR:=aa HC5.out.bad;have hbl:bl.length≤480*(2*k+j):=by
        have h1:=HC5.out.bll;rw[HEL.out]at h1;exact h1
       have HBL:=aa hbl;(have hL0b:L0.length≤500:=by have:=HGL.out;omega);clear hpp hbl;go_wp2_with fail;go_loopw [66] (fun i wr=>∃(m:Nat)(bl2:List (Pr×Value)),m≤L0.length∧i= .int .i64 m∧bl2.length≤bl.length+m∧Hid (xv w0 bl2 rows wr)∧Hid (kU bl2 (fun q=>N q∨∃o∈L0.take m,q=bC (o,s)))∧Hid (wr.heap[qb]? =some (.cells #[.int .i64 px,.int .i64 py] 44 (0,0)))∧Hid (uO w0.heap.size (pre.map Prod.snd++((.slice Av2 L0.length cv2:Value),L0)::post.map Prod.snd) wr)) (fun i _=>L0.length-(intOf i).toNat)
       case atStart=>exact⟨0,bl,Nat.zero_le _,rfl,Nat.le_refl _,HSI,HBR.out.same (fun q=>by simp),HQ5,HSR⟩
       case round=>
        clear HSI HBR HQ5 HSR q0 q1 hlook;obtain⟨m,bl2,hm,rfl,hb2,hck,hbr,hq,hsr⟩:=hrel;have hstv:ff wr (.slice Av2 L0.length cv2) L0:=cT (hsr.out.row _ (List.mem_append_right _ (List.mem_cons_self ..))) rfl;by_cases hml:m<L0.length
        ·obtain⟨_,_,he,_,hS⟩:=hstv;rw[Value.slice.injEq]at he;obtain⟨rfl,hnl,rfl⟩:=he;clear hnl;obtain⟨ga,oa,rfl,hga,hpa⟩:=hS.resolve_left (by intro e;rw[e]at hml;simp at hml);have ca:=hpa m _ (List.getElem?_eq_getElem hml);have HTM:Hid (L0.take (m+1)=L0.take m++[L0[m]]):=aa (by rw[List.take_add_one,List.getElem?_eq_getElem hml];rfl);have hos:=HPP.out _ (List.getElem_mem hml);generalize L0[m]=ob at*
         have HNT:=aa (xk ob s O9 (by have:=HSS.out.1;omega) (w0.heap.size+1) w0.heap.size bl2 wr hck.out.box hck.out.bad (by have:=HBL.out;have:=HGL.out;omega));have HCK:=aa hck.out;have HQQ:=aa hq.out;have HSR:=aa hsr.out;have HBR9:=aa ((hbr.out.put (bC (ob,s)) (.bool true)).same (N':=fun q=>N q∨∃o∈L0.take (m+1),q=bC (o,s)) (fun q=>by
          rw[HTM.out];simp only[List.mem_append,List.mem_singleton];constructor
          ·rintro(h|⟨o,h|rfl,h2⟩)
           ·exact .inl (.inl h)
           ·exact .inl (.inr ⟨o,h,h2⟩)
           ·exact .inr h2
          ·rintro((h|⟨o,h,h2⟩)|h)
           ·exact .inl h
           ·exact .inr ⟨o,.inl h,h2⟩
           ·exact .inr ⟨ob,.inr rfl,h⟩))
         have HML:=aa hml;have HB2:=aa hb2;have HMM:=aa (show L0.length-(m+1)<L0.length-m from by omega);have m0:(0:Int)≤(m:Nat):=O9;have m1:((m:Nat):Int)<(L0.length:Nat):=O9;clear hck hq hsr hbr hml hS hpa hos hb2 hm;go_wp2_with fail;refine HNT.out.mono ?_;rintro _ w6 ⟨rfl,hmp,hg6⟩;have HC6:=aa (HCK.out.noted hmp hg6);have HQ6:Hid (w6.heap[qb]? =some (.cells #[.int .i64 px,.int .i64 py] 44 (0,0))):=aa ((hg6.block _ (lt_of_block HQQ.out) (fun e=>by
          obtain⟨es,c',hmm⟩:=aC HCK.out.bad;have h1:=HQQ.out;rw[Option.some.inj e,hmm]at h1;cases h1)).trans HQQ.out)
         have HS6:=aa (HSR.out.kept hg6 (fun x hx b hb e=>aH (HSR.out.row x hx) (aC HCK.out.bad) (by rw[hb];exact e.symm)));clear hmp hg6 HNT HCK HQQ HSR ca;go_wp2_with fail;refine⟨⟨m+1,_,HML.out,by go_num,?_,HC6,HBR9,HQ6,HS6⟩,?_⟩
         ·have:=AP bl2 (bC (ob,s)) (.bool true);have:=HB2.out;omega
         ·have:=HMM.out;simp[intOf];omega
        ·(obtain rfl:m=L0.length:=by omega);have hba:Below wr.heap.size wr (wr.alloc (.cells #[.string s] 9)):=(Below.refl _ _).alloc (Nat.le_refl _) _;have HNA:=aa (hck.out.lift hba);have HSA:=aa (hsr.out.kept (aI hba) (fun _ _ _ _=>by simp));obtain⟨st,w5',hme,hg5,hs5,_,hmb5,hback⟩:=HNA.out.pts.entry oT Tryz.underlying89 ee (by unfold keyed;rw[List.length_map];have:=HC5.out.rl;rw[HEL.out]at this;unfold maxLen;omega) (x:=⟨px,py⟩) HOK.out;rw[HV0.out]at hme
         change (Instr.mapEntry 89 (.map (some (w0.heap.size+1+1))) (.agg #[.int .i64 px,.int .i64 py])).run _ _= .ok (.tuple #[_,.int .i64 (st:Int)]) _ at hme;have hnew:=heap_alloc_new wr (.cells #[.string s] 9);have hne:∀x∈pre.map Prod.snd++((.slice Av2 L0.length cv2:Value),L0)::post.map Prod.snd,∀b,x.1.ownBlock=some b→some (w0.heap.size+1+1)≠some b:=fun x hx b hb e=>aH (HSA.out.row x hx) (aC HNA.out.pts) (by rw[hb];exact e.symm);have HS5:=aa (HSA.out.kept hg5 hne)
         have HROW:=aa (HS5.out.row _ (List.mem_append_right _ (List.mem_cons_self ..)));have HN5:Hid (w5'.heap[wr.heap.size]? =some (.cells #[.string s] 9 (0,0))):=aa ((hg5.block _ (lt_of_block hnew) (fun e=>by
          obtain⟨es,c',hmm⟩:=aC HNA.out.pts;rw[Option.some.inj e,hmm]at hnew;cases hnew)).trans hnew)
         have hbx5:w5'.heap[w0.heap.size+1]? =some (.cells #[.map (some w0.heap.size)] 86 (0,0)):=(hg5.block _ (lt_of_block HNA.out.box) (by simp)).trans HNA.out.box;have hbd5:=HNA.out.bad.kept hg5 (by simp;omega);have hbw5:=ak HNA.out.below hg5 (fun r hr=>by cases hr;omega);have HX5:=aa (And.intro hbx5 (And.intro hbd5 hbw5));have HBACK:=aa hback;have HMB:=aa hmb5;have HBR9:=aa (hbr.out.same (N':=fun q=>N q∨∃o∈G ⟨px,py⟩,q=bC (o,s)) (fun q=>by rw[HL0.out,List.take_length]));have HB2:=aa hb2
         obtain⟨f0,f1⟩:=(aW hq.out).1;have m1:¬(L0.length:Int)<(L0.length:Nat):=O9;clear hback hg5 hs5 hmb5 hnew hne hba HNA HSA hck hq hsr hbr hstv hbx5 hbd5 hbw5 hml hm hb2;obtain⟨xs,hxs⟩:∃xs,wr.heap.size=xs:=⟨_,rfl⟩;rw[hxs]at HN5
         go_wp2_with (at_builtin;go_must (refine wpList_append_lies _ rfl (.tmp 77) (.tmp 79) 39 rfl w0.heap.size 9 j0s (.string ⟨#[]⟩) 1 16 Tryz.underlying39 HJ0.out HY0.out HY1.out HY2.out rfl (by decide) (.slice Av2 L0.length cv2) L0.length (L0.map .string) rfl ?c0 ⟨xs,0,none⟩ 1 1 [.string s] rfl rfl ?c1 ?c2 (by decide) ?c3 ?c4 ?c5 w5'.heap.size ?c6 ?_))
         case c0=>exact HROW.out
         case c1=>intro j u hj;(by_cases e:j=0<;>simpa[Addr.add,e]using World.news_of_block (cs:=#[.string s]) (t:=9) (fr:=(0,0)) HN5.out j u hj)
         case c2=>first|rfl|(intro u hu;simp at hu;rw[hu];rfl)
         case c3=>unfold maxLen;omega
         case c4=>omega
         case c5=>exact HX5.out.2.2.size
         case c6=>rfl
         intro g9 cap w9 hown9 hgrow9 hat9 _;have hrow9:w9.ownsRow w0.heap.size 9 1 (.slice (some ⟨g9,0,none⟩) (L0.length+1) cap) (L0++[s]).length ((L0++[s]).map .string):=by
          rw[List.length_append,List.map_append];exact hown9
         have HS9:=aa (HS5.out.grow (x':=(.slice (some ⟨g9,0,none⟩) (L0.length+1) cap,L0++[s])) hgrow9 (.inr rfl) hrow9 (fun b hb=>by
          have hbg:g9=b:=Option.some.inj hb;subst hbg;rcases hat9 with h|h
          ·exact .inl h
          ·exact .inr (Nat.le_of_eq h.symm)))
         have hm9:w9.heap[w0.heap.size+1+1]? =w5'.heap[w0.heap.size+1+1]? :=hgrow9.block _ (by obtain⟨_,_,h⟩:=HMB.out;exact lt_of_block h) (fun e=>aH HROW.out HMB.out e.symm);obtain⟨w10,hst10,hml10,hg10,_⟩:=HBACK.out w9 (.slice (some ⟨g9,0,none⟩) (L0.length+1) cap) hm9;change (Instr.entryStore 89 (.map (some (w0.heap.size+1+1))) (.int .i64 (st:Int)) (.slice (some ⟨g9,0,none⟩) (L0.length+1) cap)).run _ _= .ok () _ at hst10;have hmb9:∃es c,w9.heap[w0.heap.size+1+1]? =some (.map es c):=by
          obtain⟨es,c',h⟩:=HMB.out;exact⟨es,c',hm9.trans h⟩
         have hbx9:=(hgrow9.block _ (lt_of_block HX5.out.1) (eA HROW.out HX5.out.1 (by decide))).trans HX5.out.1;have hbd9:=HX5.out.2.1.kept hgrow9 (fun e=>aH HROW.out (aC HX5.out.2.1) e.symm);have hbw9:=ak HX5.out.2.2 hgrow9 (fun r hr=>(aj HROW.out hr).1);have HCK9:Hid (xW w0 (mf l ((af l).take k) (pa,pb) (j+1)) bl2 (pre++(⟨px,py⟩,.slice (some ⟨g9,0,none⟩) (L0.length+1) cap,L0++[s])::post) (fun q=>if q=⟨px,py⟩then G ⟨px,py⟩++[s]else G q) (fun q=>N q∨∃o∈G ⟨px,py⟩,q=bC (o,s)) w10):=by
          have hpt:=HPUT.out (.slice (some ⟨g9,0,none⟩) (L0.length+1) cap) s;have hgl0:=HC5.out.gl;have hrl0:=HC5.out.rl;(have hll:(mf l ((af l).take k) (pa,pb) j++[(s,(⟨px,py⟩:Pt))]).length=(mf l ((af l).take k) (pa,pb) j).length+1:=by simp);rw[HEJ.out];refine aa ⟨⟨ak hbw9 hg10 (fun r hr=>by cases hr;omega),(hg10.block _ (lt_of_block hbx9) (by simp)).trans hbx9,hbd9.kept hg10 (by simp;omega),?_,?_⟩,?_,HC5.out.ati.new HNI.out,HBR9.out,?_,fun q=>?_,?_⟩
          ·rw[←hpt.2.1];exact hml10
          ·rw[List.map_append,List.map_cons];exact HS9.out.kept hg10 (fun x hx b hb e=>aH (HS9.out.row x hx) hmb9 (by rw[hb];exact e.symm))
          ·rw[HL0.out];exact hpt.1
          ·rw[hll];have:=HB2.out;have:=HC5.out.bll;have:=HGL.out;omega
          ·rw[hll];split
           ·have:=hgl0 ⟨px,py⟩;rw[List.length_append];simp;omega
           ·have:=hgl0 q;omega
          ·rw[hll];have:=hpt.2.2;omega
         clear hxs hown9 hgrow9 hat9 hrow9 hm9 hml10 hg10 hmb9 hbx9 hbd9 hbw9 HS9 HBACK HMB HROW HS5 HX5 HN5 HPUT HC5 HBR9 f0 f1;go_wp2_with fail;refine⟨⟨j+1,_,_,_,_,by have:=HJ.out;omega,by go_num,HCK9⟩,?_⟩;have:=HJ.out;simp[intOf];omega
     ·(obtain rfl:j=2:=by omega);have HC3:Hid (xW w0 (iG l ((af l).take (k+1))) bl rows G N wr):=aa (by rw[HTK.out,←FO];exact hck.out);clear hck hjl;go_wp2_with fail;refine⟨⟨k+1,bl,rows,G,N,HL.out,by go_num,HC3⟩,?_⟩;have:=HMS.out;simp[intOf];omega
   ·(obtain rfl:k=n:=by omega);have k1:¬(k:Int)<(k:Nat):=O9;have HC9:Hid (xW w0 (iG l (af l)) bl rows G N wr):=aa (by
     have h1:=hck.out;rw[List.take_of_length_le (by rw[←fP,HN.out];exact Nat.le_refl _)]at h1;exact h1)
    clear hck hlt;go_wp2_with fail;go_meet;exact⟨bl,rows,G,N,HC9⟩
 case rest=>
  obtain⟨bl,rows,G,N,hck⟩:=hcut;have HCK:=aa hck.out;obtain⟨i0i,hi0,hz0,hz1,hz2⟩:=aM FQ;have HI0:=aa hi0;have HZ0:=aa hz0;have HZ1:=aa hz1;have HZ2:=aa hz2;clear hck hi0 hz0 hz1 hz2;go_upto_block 6 with(fail);go_cut [16] (fun s16 wx=>∃(A1:Option Addr)(c1:Nat),s16= .slice A1 n c1∧Hid (CV wx (.slice A1 n c1) n)∧Hid (Below wc.heap.size wc wx))
  case first=>
   go_wp2_with fail;go_loopw [16,87] (fun vo i wr=>∃(k:Nat)(Ao:Option Addr)(co:Nat),k≤n∧i= .int .i64 k∧vo= .slice Ao k co∧Hid (wr.ownsRow wc.heap.size 3 1 (.slice Ao k co) k (xw k))∧Hid (Below wc.heap.size wc wr)) (fun _ i _=>n-(intOf i).toNat)
   case atStart=>exact⟨0,none,0,Nat.zero_le _,rfl,rfl,World.ownsRow_nil _ _ _ _,Below.refl _ _⟩
   case round=>
    obtain⟨k,Ao,co,hk,rfl,rfl,hro,hbw⟩:=hrel;by_cases hlt:k<n
    ·(have k0:(0:Int)≤k:=by omega);have k1:(k:Int)<(n:Nat):=O9;have hba:Below wr.heap.size wr (wr.alloc (.cells #[.int .i64 (k:Nat)] 3)):=(Below.refl _ _).alloc (Nat.le_refl _) _;have HRO:=aa (ao hro.out hba);have HBW:=aa (aq hbw.out hba);have HL:=aa hlt;have HMS:=aa (show n-(k+1)<n-k from by omega);clear hro hbw hlt hba
     go_wp2_with (at_builtin;go_must (refine wpList_append_lies _ rfl (.tmp 90) (.tmp 92) 94 rfl wc.heap.size 3 i0i (.int .i64 0) 1 8 Tryz.underlying94 HI0.out HZ0.out HZ1.out HZ2.out rfl (by decide) (.slice Ao k co) k (xw k) rfl ?c0 ⟨wr.heap.size,0,none⟩ 1 1 [.int .i64 (k:Nat)] rfl rfl ?c1 ?c2 (by decide) ?c3 ?c4 ?c5 (wr.heap.size+1) ?c6 ?_))
     case c0=>exact HRO.out
     case c1=>intro j u hj;exact World.news_of_block (cs:=#[.int .i64 (k:Nat)]) (t:=3) (fr:=(0,0)) (heap_alloc_new wr _) j u hj
     case c2=>first|rfl|(intro u hu;simp at hu;rw[hu];rfl)
     case c3=>unfold maxLen;omega
     case c4=>omega
     case c5=>simpa using HBW.out.size
     case c6=>simp
     intro g9 cap w9 hown9 hgrow9 hat9 _;have HRO9:Hid (w9.ownsRow wc.heap.size 3 1 (.slice (some ⟨g9,0,none⟩) (k+1) cap) (k+1) (xw (k+1))):=aa (by rw[Dg];exact hown9);have HBW9:=aa (ak HBW.out hgrow9 (fun r hr=>(aj HRO.out hr).1));clear hown9 hgrow9 hat9 HRO HBW;go_wp2_with fail;refine⟨⟨k+1,some ⟨g9,0,none⟩,cap,HL.out,by go_num,rfl,HRO9,HBW9⟩,?_⟩;have:=HMS.out;simp[intOf];omega
    ·(obtain rfl:k=n:=by omega);have k1:¬(k:Int)<(k:Nat):=O9;have HCN:=aa (zK hro.out);have HBW:=aa hbw.out;clear hro hbw hlt;go_wp2_with fail;go_meet;exact⟨Ao,co,rfl,HCN,HBW⟩
  case rest=>
   obtain⟨A1,c1,rfl,hcn,hbw⟩:=hcut;have HCK2:=aa (HCK.out.lift hbw.out);have HSL:Hid ((dw l).length=n):=aa (by unfold dw;rw[List.length_map,←fP];exact HN.out);have hbf:Below wc.heap.size wc (wc.alloc (.map #[] 0)):=(Below.refl _ _).alloc (Nat.le_refl _) _;have HCK6:=aa (HCK2.out.lift hbf);have HCN6:=aa (hcn.out.below hbf);have HMF6:Hid (Bf (wc.alloc (.map #[] 0)) wc.heap.size []):=aa (cK _ wc)
   have HFB:Hid (w0.heap.size+1+1<wc.heap.size):=aa (by obtain⟨_,_,h⟩:=aC HCK2.out.mem.pts;exact lt_of_block h);obtain⟨x0,x1⟩:=(aW (ai HCK6.out.mem.below HPB4.out)).1;have HSG:=aa (nQ l (bP HM.out) _ _ (bQ l) (xj HSM.out) (by rw[HN.out];omega) _ (HPC.out _ (aq HB24.out HCK6.out.mem.below)) (HLV.out.below HCK6.out.mem.below));clear hcn hbw hbf HCK HCK2;go_wp2_with fail;obtain⟨fb,hfb⟩:∃fb,wc.heap.size=fb:=⟨_,rfl⟩;rw[hfb]at HMF6 HFB ⊢;clear hfb;generalize wc.alloc _=w6 at*;refine HSG.out.mono ?_
   rintro _ w7 ⟨sv,rfl,hsv,hb7⟩;rw[qY]at hsv;have HCK7:=aa (HCK6.out.lift hb7);have HMT:=aa (CX (dw l) sv (.slice A1 n c1) fb w7 hsv (by rw[HSL.out];exact HCN6.out.below hb7) (by rw[HSL.out];omega) (HMF6.out.kept (aI hb7) (by simp)));have HMF7:=aa (HMF6.out.kept (aI hb7) (by simp));clear hsv hb7 HSG HCK6 HCN6 HMF6 x0 x1;go_wp2_with fail;refine HMT.out.mono ?_;rintro _ w8 ⟨rfl,hg8,fl,hm8,hf8,hl8⟩
   have HCK8:Hid (xW w0 (iG l (af l)) bl rows G N w8):=aa ⟨HCK7.out.mem.far hg8 HFB.out (fun x hx b hb e=>aH (HCK7.out.mem.sr.row x.2 (List.mem_map.2 ⟨x,hx,rfl⟩)) (aC HMF7.out) (by rw[hb,e])),HCK7.out.rel,HCK7.out.ati,HCK7.out.bad,HCK7.out.bll,HCK7.out.gl,HCK7.out.rl⟩;obtain⟨w9,hr9,hrg9,hg9,hs9⟩:=hm8.range Tryz.underlying95;have hb9:Below w8.heap.size w8 w9:=⟨hg9.os,hg9.tape,hg9.output,hg9.size,fun i hi=>hg9.block i hi (by simp)⟩;have HCI9:=aa (HCK8.out.mem.lift hb9);have HRG9:=aa hrg9;have HFR:=aa hf8
   have hfl8:=hl8;have HFF:Hid (fb<w8.heap.size):=aa (by obtain⟨_,_,h⟩:=aC hm8;exact lt_of_block h);have HBAD9:Hid (kU bl (fun q=>N q∨∃m∈ep (dw l),(aJ fl ⟨(m.a:Nat),(m.b:Nat)⟩).isSome=false∧badM l m q)):=aa (HCK8.out.bad.same (fun q=>by
    constructor
    ·rintro(h|⟨m,hm,h1,_⟩)
     ·exact h
     ·rw[(hf8 ⟨(m.a:Nat),(m.b:Nat)⟩ (.int .i64 m.kind)).2 ⟨m,hm,rfl,rfl⟩]at h1;cases h1
    ·exact .inl))
   have HBLL:Hid (bl.length≤230400):=aa (by
    have h1:=HCK8.out.bll;rw[sA,←fP,HN.out]at h1;omega)
   have HATI:=aa HCK8.out.ati;clear hg8 hm8 hf8 hrg9 hg9 hs9 hb9 HMT HCK7 HMF7 HCK8 hl8;obtain⟨rb,hrb⟩:∃rb,w8.heap.size=rb:=⟨_,rfl⟩;rw[hrb]at HRG9 HFF;have HRB:=aa hrb;clear hrb;go_upto_block 8 with(fail);rw[HRB.out];clear HRB hr9;go_cut [] (fun wx=>∃(bl2:List (Pr×Value)),bl2.length≤900000000∧Hid (xv w0 bl2 rows wx)∧Hid (kU bl2 (jX l)))
   case first=>
    go_wp2_with fail;go_loopw [] (fun wr=>∃(bl2:List (Pr×Value))(left:Pt→Bool)(ja:Nat),bl2.length+400*ja≤230400+400*fl.length∧Hid (bD (ptKeys Tryz.prog 98 (Maps.Keyed.of_law j7) j9) wr fb rb fl left ja)∧Hid (xv w0 bl2 rows wr)∧Hid (kU bl2 (fun q=>N q∨∃m∈ep (dw l),left ⟨(m.a:Nat),(m.b:Nat)⟩=false∧badM l m q))) (fun wr=>wr.rangeLeft fb rb)
    case atStart=>exact⟨bl,_,_,by have:=HBLL.out;omega,HRG9,HCI9,HBAD9⟩
    case round=>
     clear HRG9 HCI9 HBAD9;obtain⟨bl2,left,ja,hbl,hrg,hci,hbad⟩:=hrel;rcases hrg.out.next with⟨hc0,hl0,hnx⟩|⟨q,v,w5,cnt',hok,hlx,hgx,hnx,hrg5,hlt5,hg5,hs5,hen⟩
     ·have HB9:Hid (kU bl2 (jX l)):=aa (hbad.out.same (fun q=>by
       rw[B8 HATI.out q];constructor
       ·rintro(h|⟨m,hm,h⟩)
        ·exact .inl h
        ·exact .inr ⟨m,hm,hl0 _ (by
          have h1:=uA hm;rw[HSL.out]at h1;unfold Pm.ptKeys nx;simp only;omega),h⟩
       ·rintro(h|⟨m,hm,_,h⟩)
        ·exact .inl h
        ·exact .inr ⟨m,hm,h⟩))
      have HCI:=aa hci.out;have HBL2:=aa (show bl2.length≤900000000 by omega);clear hl0 hrg hci hbad hbl;go_wp2_with fail;go_meet;exact⟨bl2,HBL2.out,HCI,HB9⟩
     ·obtain⟨m,hm,rfl,rfl⟩:=(HFR.out q v).1 hgx;change ∀ty,(Instr.next (.pointer (some ⟨rb,0,none⟩)) false ty).run Tryz.prog wr= .ok (.tuple #[.bool true,.agg #[.int .i64 (m.a:Nat),.int .i64 (m.b:Nat)],.int .i64 m.kind]) w5 at hnx;change (Instr.entry (.pointer (some ⟨rb,0,none⟩))).run Tryz.prog w5= .ok (.tuple #[.agg #[.int .i64 (m.a:Nat),.int .i64 (m.b:Nat)],.int .i64 m.kind]) w5 at hen;have hml:=uA hm;rw[HSL.out]at hml;have hit:=dh hrg.out
      have hci5:=hci.out.far hg5 (by have:=HFB.out;have:=HFF.out;omega) (fun x hx b hb e=>bZ (hci.out.sr.row x.2 (List.mem_map.2 ⟨x,hx,rfl⟩)) hit (by rw[hb,e]));(have hla:m.a<(bQ l).length:=by rw[HN.out];exact hml.1);(have hlb:m.b<(bQ l).length:=by rw[HN.out];exact hml.2);obtain⟨g,o,rfl,hg,hp⟩:=HAA.out.resolve_left (by intro e;rw[e]at hla;simp at hla);obtain⟨ova,a0,a1,a2,hova⟩:=hp _ _ (List.getElem?_eq_getElem hla);obtain⟨ovb,b0,b1,b2,hovb⟩:=hp _ _ (List.getElem?_eq_getElem hlb)
      (have hba:m.a<(af l).length:=by rw[←fP];exact hla);(have hbb:m.b<(af l).length:=by rw[←fP];exact hlb);(have hlna:(bQ l)[m.a]=((af l)[m.a],aB l (af l)[m.a]):=by simp[bQ]);(have hlnb:(bQ l)[m.b]=((af l)[m.b],aB l (af l)[m.b]):=by simp[bQ]);rw[hlna]at a0 a1 hova;rw[hlnb]at b0 b1 hovb;have HGA:=aa (List.getElem?_eq_getElem hba);have HGB:=aa (List.getElem?_eq_getElem hbb);have hne:(af l)[m.a]≠(af l)[m.b]:=by
       obtain⟨_,_,_,_,hab,_⟩:=eR.1 hm;have:=List.pairwise_iff_getElem.1 (iF l) m.a m.b hba hbb hab;intro e;rw[e]at this;exact jW _ this
      have HNE:=aa hne;have HOKA:Hid (iI (af l)[m.a]):=aa (by have:=bO HSM.out (List.getElem_mem hba);unfold iI;omega);have HOKB:Hid (iI (af l)[m.b]):=aa (by have:=bO HSM.out (List.getElem_mem hbb);unfold iI;omega);generalize (af l)[m.a]=xa at*;generalize (af l)[m.b]=xb at*;obtain⟨pa,pb⟩:=xa;obtain⟨pc,pd⟩:=xb;have HSA:=aa hova;have HSB:=aa hovb;obtain⟨Aa,ca,rfl,_⟩:=hova;obtain⟨Ab,cb,rfl,_⟩:=hovb;simp only at a0 a1 a2 b0 b1 b2;have HCI5:=aa hci5
      have hbk:Below w5.heap.size w5 (w5.alloc (.cells #[.int .i64 (m.a:Nat),.int .i64 (m.b:Nat)] 98)):=(Below.refl _ _).alloc (Nat.le_refl _) _;have hkb:=heap_alloc_new w5 (.cells #[.int .i64 (m.a:Nat),.int .i64 (m.b:Nat)] 98);have HCI6:=aa (hci5.lift hbk);have HRG6:=aa (hrg5.kept (aI hbk) (by simp) (by simp));have HKB:=aa hkb;have HGG:=aa hg;have HAC:=aa (And.intro a0 (And.intro a1 (And.intro a2 (And.intro b0 (And.intro b1 b2)))));have HMM:=aa hm
      have HM9:Hid (∀W,bD (ptKeys Tryz.prog 98 (Maps.Keyed.of_law j7) j9) W fb rb fl (fun y=>left y&& !decide (y=⟨(m.a:Nat),(m.b:Nat)⟩)) cnt'→W.rangeLeft fb rb<wr.rangeLeft fb rb):=aa (fun W h=>by rw[h.left_eq,hrg.out.left_eq];exact hlt5);have HBL9:Hid (bl2.length+400*(cnt'+1)≤230400+400*fl.length):=aa O9;have HBAD:=aa hbad.out;clear hrg hci hbad hbl hrg5 hlt5 hg5 hs5 hit hci5 hla hlb hp a0 a1 a2 b0 b1 b2 hba hbb hlna hlnb hne hbk hkb hm hgx hlx hok hg;go_upto_region 35 with(fail)
      generalize w5.alloc _=wd at*;clear hnx hen;obtain⟨kb,hkb⟩:∃kb,w5.heap.size=kb:=⟨_,rfl⟩;rw[hkb]at HKB ⊢;clear hkb;have a1':((m.a:Nat):Int)<(n:Nat):=O9;have b1':((m.b:Nat):Int)<(n:Nat):=O9;have a0':(0:Int)≤(m.a:Nat):=O9;have b0':(0:Int)≤(m.b:Nat):=O9;obtain⟨ma,hma⟩:∃ma,ma=m.a:=⟨_,rfl⟩;obtain⟨mb,hmb⟩:∃mb,mb=m.b:=⟨_,rfl⟩;obtain⟨mk,hmk⟩:∃mk,mk=m.kind:=⟨_,rfl⟩;rw[←hma]at HKB HAC a1' a0' HGA HM9 HRG6;rw[←hmb]at HKB HAC b1' b0' HGB HM9 HRG6;rw[←hma,←hmb,←hmk];have HMA:=aa hma;have HMB:=aa hmb
      have HMK:=aa hmk;clear hma hmb hmk hml
      have HLB:Hid (∀w':World,Below wd.heap.size wd w'→(w'.cell? ⟨kb,0,none⟩=some (.int .i64 (ma:Nat))∧w'.cell? ⟨kb,1,none⟩=some (.int .i64 (mb:Nat))∧w'.cell? ⟨g,o+ma*3,none⟩=some (.string pa)∧w'.cell? ⟨g,o+ma*3+1,none⟩=some (.string pb)∧w'.cell? ⟨g,o+ma*3+2,none⟩=some (.slice Aa (aB l (pa,pb)).length ca)∧w'.cell? ⟨g,o+mb*3,none⟩=some (.string pc)∧w'.cell? ⟨g,o+mb*3+1,none⟩=some (.string pd)∧w'.cell? ⟨g,o+mb*3+2,none⟩=some (.slice Ab (aB l (pc,pd)).length cb))):=aa (fun w' hb=>by
       obtain⟨a0,a1,a2,b0,b1,b2⟩:=HAC.out;have hg:=HGG.out;have hb0:=aq HCI6.out.below hb;have key:∀i v,w0.cell? ⟨g,i,none⟩=some v→w'.cell? ⟨g,i,none⟩=some v:=fun i v h=>(hb0.cell (p:=⟨g,i,none⟩) hg).trans h;exact⟨(aW (ai hb HKB.out)).1.1,(aW (ai hb HKB.out)).1.2,key _ _ a0,key _ _ a1,key _ _ a2,key _ _ b0,key _ _ b1,key _ _ b2⟩)
      have hbd:=aA wd;go_cut [21,22]from 104 to 164 (fun s21 s22 wx=>∃xa xb:Nat,s21= .pointer (some ⟨xa,0,none⟩)∧s22= .pointer (some ⟨xb,0,none⟩)∧Hid (xv w0 bl2 rows wx)∧Hid (bD (ptKeys Tryz.prog 98 (Maps.Keyed.of_law j7) j9) wx fb rb fl (fun y=>left y&& !decide (y=⟨(ma:Nat),(mb:Nat)⟩)) cnt')∧Hid (wx.heap[xa]? =some (.cells #[.string pa,.string pb,.slice Aa (aB l (pa,pb)).length ca] 91 (0,0)))∧Hid (wx.heap[xb]? =some (.cells #[.string pc,.string pd,.slice Ab (aB l (pc,pd)).length cb] 91 (0,0))))
      case first=>
       go_region_held3 (fun w'=>Below wd.heap.size wd w'∧(w'.cell? ⟨kb,0,none⟩=some (.int .i64 (ma:Nat))∧w'.cell? ⟨kb,1,none⟩=some (.int .i64 (mb:Nat))∧w'.cell? ⟨g,o+ma*3,none⟩=some (.string pa)∧w'.cell? ⟨g,o+ma*3+1,none⟩=some (.string pb)∧w'.cell? ⟨g,o+ma*3+2,none⟩=some (.slice Aa (aB l (pa,pb)).length ca)∧w'.cell? ⟨g,o+mb*3,none⟩=some (.string pc)∧w'.cell? ⟨g,o+mb*3+1,none⟩=some (.string pd)∧w'.cell? ⟨g,o+mb*3+2,none⟩=some (.slice Ab (aB l (pc,pd)).length cb)))
        (first
         |exact⟨hbd,HLB.out _ hbd⟩
         |exact⟨Below.alloc (And.left (by assumption)) (Below.size (And.left (by assumption))) _,HLB.out _ (Below.alloc (And.left (by assumption)) (Below.size (And.left (by assumption))) _)⟩
         |(refine(fun h=>⟨h,HLB.out _ h⟩) ?_;repeat' (first|exact Below.refl _ _|(with_reducible refine Below.drew ?_)|(with_reducible refine Below.alloc ?_ ?_ _)|(simp;done)|(simp;omega))))
        (fail)
       focus
        have hbw:Below wd.heap.size wd (((wd.alloc (.cells #[.string pa,.string pb,.slice Aa (aB l (pa,pb)).length ca] 91)).alloc (.cells #[.string pc,.string pd,.slice Ab (aB l (pc,pd)).length cb] 91)).drew):=(((Below.refl _ _).alloc (Nat.le_refl _) _).alloc (by simp) _).drew;have hn1:=ai ((Below.refl _ _).alloc (Nat.le_refl _) (.cells #[.string pc,.string pd,.slice Ab (aB l (pc,pd)).length cb] 91)).drew (heap_alloc_new wd (.cells #[.string pa,.string pb,.slice Aa (aB l (pa,pb)).length ca] 91))
        have hn2:((wd.alloc (.cells #[.string pa,.string pb,.slice Aa (aB l (pa,pb)).length ca] 91)).alloc (.cells #[.string pc,.string pd,.slice Ab (aB l (pc,pd)).length cb] 91)).drew.heap[(wd.alloc (.cells #[.string pa,.string pb,.slice Aa (aB l (pa,pb)).length ca] 91)).heap.size]? =_:=heap_alloc_new (wd.alloc (.cells #[.string pa,.string pb,.slice Aa (aB l (pa,pb)).length ca] 91)) (.cells #[.string pc,.string pd,.slice Ab (aB l (pc,pd)).length cb] 91);rw[World.size_alloc]at hn2
        have HCW:=aa (HCI6.out.lift hbw);have HRW:=aa (HRG6.out.kept (aI hbw) (by simp) (by simp));have HXA:=aa hn1;have HXB:=aa hn2;go_wp2_with fail;go_meet;exact⟨_,_,rfl,rfl,HCW,HRW,HXA,HXB⟩
       focus
        have hbw:Below wd.heap.size wd (((wd.alloc (.cells #[.string pc,.string pd,.slice Ab (aB l (pc,pd)).length cb] 91)).alloc (.cells #[.string pa,.string pb,.slice Aa (aB l (pa,pb)).length ca] 91)).drew):=(((Below.refl _ _).alloc (Nat.le_refl _) _).alloc (by simp) _).drew;have hn1:=ai ((Below.refl _ _).alloc (Nat.le_refl _) (.cells #[.string pa,.string pb,.slice Aa (aB l (pa,pb)).length ca] 91)).drew (heap_alloc_new wd (.cells #[.string pc,.string pd,.slice Ab (aB l (pc,pd)).length cb] 91))
        have hn2:((wd.alloc (.cells #[.string pc,.string pd,.slice Ab (aB l (pc,pd)).length cb] 91)).alloc (.cells #[.string pa,.string pb,.slice Aa (aB l (pa,pb)).length ca] 91)).drew.heap[(wd.alloc (.cells #[.string pc,.string pd,.slice Ab (aB l (pc,pd)).length cb] 91)).heap.size]? =_:=heap_alloc_new (wd.alloc (.cells #[.string pc,.string pd,.slice Ab (aB l (pc,pd)).length cb] 91)) (.cells #[.string pa,.string pb,.slice Aa (aB l (pa,pb)).length ca] 91);rw[World.size_alloc]at hn2
        have HCW:=aa (HCI6.out.lift hbw);have HRW:=aa (HRG6.out.kept (aI hbw) (by simp) (by simp));have HXA:=aa hn2;have HXB:=aa hn1;go_wp2_with fail;go_meet;exact⟨_,_,rfl,rfl,HCW,HRW,HXA,HXB⟩
      case rest=>
       obtain⟨xa,xb,rfl,rfl,HCW,HRW,HXA,HXB⟩:=hcut;clear HCI6 HRG6 HLB HKB hbd;go_upto_region 36 with(fail);generalize wc=W at*
       go_cut [23]from 104 to 164 (fun s23 wx=>∃cm:Bool,s23= .bool cm∧Hid (cm=true↔qw (pa,pb) (pc,pd))∧Hid (xv w0 bl2 rows wx)∧Hid (bD (ptKeys Tryz.prog 98 (Maps.Keyed.of_law j7) j9) wx fb rb fl (fun y=>left y&& !decide (y=⟨(ma:Nat),(mb:Nat)⟩)) cnt')∧Hid (wx.heap[xa]? =some (.cells #[.string pa,.string pb,.slice Aa (aB l (pa,pb)).length ca] 91 (0,0)))∧Hid (wx.heap[xb]? =some (.cells #[.string pc,.string pd,.slice Ab (aB l (pc,pd)).length cb] 91 (0,0))))
       case first=>
        obtain⟨⟨p0,p1,p2⟩,_⟩:=Dh HXA.out;obtain⟨⟨q0,q1,q2⟩,_⟩:=Dh HXB.out;have hst:=FR HXB.out;have HCA:Hid (∀m,Calls Tryz.prog 33 #[.slice (some ⟨xb,0,none⟩) 2 2,.string pa] (W.drewN m) fun e w'=>e= .returned (.bool (dr pa [pc,pd]))∧w'=W.drewN m):=aa (fun m=>eB (W.drewN m) _ _ pa (hst.below (below_drewN W m)) (by simp))
        have HCB:Hid (∀m,Calls Tryz.prog 33 #[.slice (some ⟨xb,0,none⟩) 2 2,.string pb] (W.drewN m) fun e w'=>e= .returned (.bool (dr pb [pc,pd]))∧w'=W.drewN m):=aa (fun m=>eB (W.drewN m) _ _ pb (hst.below (below_drewN W m)) (by simp));have HCM:Hid ((dr pa [pc,pd]||dr pb [pc,pd])=true↔qw (pa,pb) (pc,pd)):=aa (Hd (pa,pb) (pc,pd));generalize dr pa [pc,pd]=x1 at*;generalize dr pb [pc,pd]=x2 at*;clear hst;cases x1
        focus cases x2
        all_goals
         go_quiet (first|(go_at_call 33;first|exact Calls.quiet_of_same (HCA.out _)|exact Calls.quiet_of_same (HCB.out _)));have HC9:=aa (HCW.out.lift (below_drewN W nq));have HR9:=aa (HRW.out.kept (aI (below_drewN W nq)) (by simp) (by simp));have HX9:=aa (ai (below_drewN W nq) HXA.out);have HY9:=aa (ai (below_drewN W nq) HXB.out);go_wp2_with fail;go_meet;exact⟨_,rfl,by simpa using HCM,HC9,HR9,HX9,HY9⟩
       case rest=>
        obtain⟨cm,rfl,HCM,HC9,HR9,HX9,HY9⟩:=hcut;clear HCW HRW HXA HXB;generalize wc=W at*;obtain⟨⟨p0,p1,p2⟩,_⟩:=Dh HX9.out;obtain⟨⟨q0,q1,q2⟩,_⟩:=Dh HY9.out;have EQ:=Dj (pa,pb) (pc,pd) HOKA.out HOKB.out HNE.out;by_cases hk1:mk=1
        focus subst hk1;cases cm
        all_goals
         go_wp2_with fail;have HSS:=aa (fun q=>B9 (N:=N) (left:=left) HMM.out q);rw[←HMA.out,←HMB.out]at HSS;have HBM:Hid (∀q,badM l m q↔¬(m.kind=1∧qw (pa,pb) (pc,pd))∧∃x∈aB l (pa,pb),∃y∈aB l (pc,pd),q=bC (x,y)):=aa (fun q=>FT (by rw[←HMA.out];exact HGA.out) (by rw[←HMB.out];exact HGB.out) q)
         first
          |(
           refine⟨⟨bl2,_,cnt',by have:=HBL9.out;omega,HR9,HC9,aa (HBAD.out.same (fun q=>?_))⟩,HM9.out _ HR9.out⟩;rw[HSS.out q,HBM.out q];constructor
           ·rintro(h|h)
            ·exact h
            ·exact absurd ⟨HMK.out.symm,HCM.out.1 rfl⟩ h.1
           ·exact .inl)
          |skip
        all_goals
         have HNB:Hid (¬(m.kind=1∧qw (pa,pb) (pc,pd))):=aa (by
          first
           |exact fun h=>hk1 (HMK.out.trans h.1)
           |exact fun h=>by have:=HCM.out.2 h.2;cases this)
         have HOA:=aa (fun s (hs:s∈aB l (pa,pb))=>jl HSM.out hs);have HOB:=aa (fun s (hs:s∈aB l (pc,pd))=>jl HSM.out hs);have hoa:=ri HSM.out (pa,pb);have hob:=ri HSM.out (pc,pd);generalize aB l (pa,pb)=OA at*;generalize aB l (pc,pd)=OB at*;have hb4:=HBL9.out;have HFB2:=HFB.out;have HFF2:=HFF.out;clear p0 p1 p2 q0 q1 q2 HX9 HAC
         go_loopw [148] (fun i wu=>∃(k:Nat)(bl3:List (Pr×Value)),k≤OA.length∧i= .int .i64 k∧bl3.length≤bl2.length+20*k∧Hid (xv w0 bl3 rows wu)∧Hid (kU bl3 (fun q=>(N q∨∃m'∈ep (dw l),left ⟨(m'.a:Nat),(m'.b:Nat)⟩=false∧badM l m' q)∨∃x∈OA.take k,∃y∈OB,q=bC (x,y)))∧Hid (wu.heap[xb]? =some (.cells #[.string pc,.string pd,.slice Ab OB.length cb] 91 (0,0)))∧Hid (bD (ptKeys Tryz.prog 98 (Maps.Keyed.of_law j7) j9) wu fb rb fl (fun y=>left y&& !decide (y=⟨(ma:Nat),(mb:Nat)⟩)) cnt')) (fun i _=>OA.length-(intOf i).toNat)
         case atStart=>exact⟨0,bl2,Nat.zero_le _,rfl,O9,HC9,aa (HBAD.out.same (fun q=>by simp)),HY9,HR9⟩
         case round=>
          clear HC9 HY9 HR9 HBAD;obtain⟨k,bl3,hk,rfl,hb3,hck,hbr,hxb,hrg⟩:=hrel;by_cases hlt:k<OA.length
          ·obtain⟨_,_,he,_,hS⟩:=HSA.out.below hck.out.below;rw[Value.slice.injEq]at he;obtain⟨rfl,hnl,rfl⟩:=he;clear hnl;obtain⟨ga,oa,rfl,hga,hpa⟩:=hS.resolve_left (by intro e;rw[e]at hlt;simp at hlt);have ca9:=hpa k _ (List.getElem?_eq_getElem hlt);have HTM:Hid (OA.take (k+1)=OA.take k++[OA[k]]):=aa (by rw[List.take_add_one,List.getElem?_eq_getElem hlt];rfl);have hxo:=HOA.out _ (List.getElem_mem hlt);generalize OA[k]=xo at*;obtain⟨⟨q0,q1,q2⟩,_⟩:=Dh hxb.out;have HCK:=aa hck.out;have HBR:=aa hbr.out
           have HXB:=aa hxb.out;have HRG:=aa hrg.out;have HL:=aa hlt;have HMS:=aa (show OA.length-(k+1)<OA.length-k from by omega);have k0:(0:Int)≤(k:Nat):=O9;have k1:((k:Nat):Int)<(OA.length:Nat):=O9;have hk20:k<20:=O9;clear hck hbr hxb hrg hlt hS hpa hk;go_wp2_with fail
           go_loopw [155] (fun i wu=>∃(j:Nat)(bl4:List (Pr×Value)),j≤OB.length∧i= .int .i64 j∧bl4.length≤bl3.length+j∧Hid (xv w0 bl4 rows wu)∧Hid (kU bl4 (fun q=>((N q∨∃m'∈ep (dw l),left ⟨(m'.a:Nat),(m'.b:Nat)⟩=false∧badM l m' q)∨∃x∈OA.take k,∃y∈OB,q=bC (x,y))∨∃y∈OB.take j,q=bC (xo,y)))∧Hid (wu.heap[xb]? =some (.cells #[.string pc,.string pd,.slice Ab OB.length cb] 91 (0,0)))∧Hid (bD (ptKeys Tryz.prog 98 (Maps.Keyed.of_law j7) j9) wu fb rb fl (fun y=>left y&& !decide (y=⟨(ma:Nat),(mb:Nat)⟩)) cnt')) (fun i _=>OB.length-(intOf i).toNat)
           case atStart=>exact⟨0,bl3,Nat.zero_le _,rfl,O9,HCK,aa (HBR.out.same (fun q=>by simp)),HXB,HRG⟩
           case round=>
            clear HCK HBR HXB HRG q0 q1 q2 ca9;obtain⟨j,bl4,hj,rfl,hb5,hck,hbr,hxb,hrg⟩:=hrel;by_cases hjl:j<OB.length
            ·obtain⟨_,_,he,_,hS⟩:=HSB.out.below hck.out.below;rw[Value.slice.injEq]at he;obtain⟨rfl,hnl,rfl⟩:=he;clear hnl;obtain⟨gb,ob,rfl,hgb,hpb⟩:=hS.resolve_left (by intro e;rw[e]at hjl;simp at hjl);have cb9:=hpb j _ (List.getElem?_eq_getElem hjl);have HTM2:Hid (OB.take (j+1)=OB.take j++[OB[j]]):=aa (by rw[List.take_add_one,List.getElem?_eq_getElem hjl];rfl);have hyo:=HOB.out _ (List.getElem_mem hjl);generalize OB[j]=yo at*
             have HNT:=aa (xk xo yo O9 O9 (w0.heap.size+1) w0.heap.size bl4 _ hck.out.box hck.out.bad O9);have HCK:=aa hck.out;have HXB:=aa hxb.out;have HRG:=aa hrg.out;have HBR9:=aa ((hbr.out.put (bC (xo,yo)) (.bool true)).same (N':=fun q=>((N q∨∃m'∈ep (dw l),left ⟨(m'.a:Nat),(m'.b:Nat)⟩=false∧badM l m' q)∨∃x∈OA.take k,∃y∈OB,q=bC (x,y))∨∃y∈OB.take (j+1),q=bC (xo,y)) (fun q=>by
              rw[HTM2.out];simp only[List.mem_append,List.mem_singleton];constructor
              ·rintro(h|⟨y,h|rfl,h2⟩)
               ·exact .inl (.inl h)
               ·exact .inl (.inr ⟨y,h,h2⟩)
               ·exact .inr h2
              ·rintro((h|⟨y,h,h2⟩)|h)
               ·exact .inl h
               ·exact .inr ⟨y,.inl h,h2⟩
               ·exact .inr ⟨yo,.inr rfl,h⟩))
             have HJ:=aa hjl;have HB5:=aa hb5;have HMS2:=aa (show OB.length-(j+1)<OB.length-j from by omega);have j0:(0:Int)≤(j:Nat):=O9;have j1:((j:Nat):Int)<(OB.length:Nat):=O9;clear hck hbr hxb hrg hjl hS hpb hj hb5;go_wp2_with fail;refine HNT.out.mono ?_;rintro _ w6 ⟨rfl,hmp,hg6⟩;have HC6:=aa (HCK.out.noted hmp hg6);have HX6:=aa ((hg6.block xb (lt_of_block HXB.out) (fun e=>by
              obtain⟨es,c',hmm⟩:=aC HCK.out.bad;have h1:=HXB.out;rw[Option.some.inj e,hmm]at h1;cases h1)).trans HXB.out)
             have HR6:=aa (HRG.out.kept hg6 (by simp;omega) (by simp;omega));clear hmp hg6 HNT HCK HXB HRG cb9;go_wp2_with fail;refine⟨⟨j+1,_,HJ.out,by go_num,?_,HC6,HBR9,HX6,HR6⟩,?_⟩
             ·have:=AP bl4 (bC (xo,yo)) (.bool true);have:=HB5.out;omega
             ·have:=HMS2.out;simp[intOf];omega
            ·(obtain rfl:j=OB.length:=by omega);have j1:¬(OB.length:Int)<(OB.length:Nat):=O9;have HCK:=aa hck.out;have HXB:=aa hxb.out;have HRG:=aa hrg.out;have HBR9:=aa (hbr.out.same (N':=fun q=>(N q∨∃m'∈ep (dw l),left ⟨(m'.a:Nat),(m'.b:Nat)⟩=false∧badM l m' q)∨∃x∈OA.take (k+1),∃y∈OB,q=bC (x,y)) (fun q=>by
              rw[HTM.out,List.take_length];simp only[List.mem_append,List.mem_singleton];constructor
              ·rintro(h|⟨x,h|rfl,h2⟩)
               ·exact .inl (.inl h)
               ·exact .inl (.inr ⟨x,h,h2⟩)
               ·exact .inr h2
              ·rintro((h|⟨x,h,h2⟩)|h)
               ·exact .inl h
               ·exact .inr ⟨x,.inl h,h2⟩
               ·exact .inr ⟨xo,.inr rfl,h⟩))
             have HB6:=aa (show bl4.length≤bl2.length+20*(k+1)by omega);clear hck hbr hxb hrg hjl hj hb5;go_wp2_with fail;refine⟨⟨k+1,_,HL.out,by go_num,HB6.out,HCK,HBR9,HXB,HRG⟩,?_⟩;have:=HMS.out;simp[intOf];omega
          ·(obtain rfl:k=OA.length:=by omega);have k1:¬(OA.length:Int)<(OA.length:Nat):=O9;have HCK:=aa hck.out;have HRG:=aa hrg.out;have HBR9:=aa (hbr.out.same (N':=fun q=>N q∨∃m'∈ep (dw l),(left ⟨(m'.a:Nat),(m'.b:Nat)⟩&& !decide ((⟨(m'.a:Nat),(m'.b:Nat)⟩:Pt)=⟨(ma:Nat),(mb:Nat)⟩))=false∧badM l m' q) (fun q=>by
            rw[List.take_length,HSS.out q,HBM.out q];exact⟨fun h=>h.imp id (fun h=>h.2),fun h=>h.imp id (fun h=>⟨HNB.out,h⟩)⟩))
           have HB6:=aa (show bl3.length+400*cnt'≤230400+400*fl.length by omega);clear hck hbr hxb hrg hlt hk hb3;go_wp2_with fail;exact⟨⟨_,_,_,HB6.out,HRG,HCK,HBR9⟩,HM9.out _ HRG.out⟩
   case rest=>
    obtain⟨bl2,hbl2,hci,hbr⟩:=hcut;have HBR:=aa hbr.out;have hci0:=hci.out;have hci1:=hci.out;obtain⟨w10,hr10,hrg10,hg10,hs10⟩:=hci0.bad.range Tryz.underlying86;have hb10:Below wc.heap.size wc w10:=⟨hg10.os,hg10.tape,hg10.output,hg10.size,fun i hi=>hg10.block i hi (by simp)⟩;obtain⟨x0,_⟩:=cD hci0.box;have HB10:=aa (aq hci0.below hb10);have HRG10:=aa hrg10;have HBL10:=aa hbl2;obtain⟨rb2,hrb2⟩:∃rb2,wc.heap.size=rb2:=⟨_,rfl⟩;rw[hrb2]at HRG10;have HRB2:=aa hrb2
    clear hci hbr hci0 hrg10 hg10 hs10 hb10 hrb2 hbl2 HCI9 HRG9 HBAD9 HFR HFF;go_upto_block 14 with(fail);rw[HRB2.out];have HROW0:Hid (w10.ownsRow w0.heap.size 101 3 (.slice none 0 0) 0 (([]:List Vl).flatMap kh)):=aa (World.ownsRow_nil _ _ _ _);obtain⟨iv,hiv,hv0,hv1,hv2⟩:=aM Di;have HIV:=aa hiv;have HV0:=aa hv0;have HV1:=aa hv1;have HV2:=aa hv2;clear hiv hv0 hv1 hv2
    have HRBG:Hid (w0.heap.size<rb2):=aa (by rw[←HRB2.out];exact Nat.lt_of_lt_of_le (lt_of_block (aC hci1.bad).choose_spec.choose_spec) (Nat.le_refl _));clear hci1;go_cut [28] (fun s28 wx=>∃(C:List Pr)(V:List Vl)(Ao:Option Addr)(co:Nat),s28= .slice Ao V.length co∧V.length=C.length∧V.length≤1000000000∧Hid (C.Nodup∧∀q,q∈C↔jX l q)∧Hid (wx.ownsRow w0.heap.size 101 3 (.slice Ao V.length co) V.length (V.flatMap kh))∧Hid (∀x∈V,mq wx x.1 x.2)∧Hid (Below w0.heap.size w0 wx))
    case first=>
     go_wp2_with fail;go_loopw [28] (fun vo wr=>∃(C:List Pr)(V:List Vl)(left:Pr→Bool)(ja:Nat)(Ao:Option Addr)(co:Nat),vo= .slice Ao V.length co∧V.length=C.length∧V.length+ja≤bl2.length∧Hid (vO bl2 C left)∧Hid (bD (kS Tryz.prog 87 (Maps.Keyed.of_law fu) iV) wr w0.heap.size rb2 bl2 left ja)∧Hid (wr.ownsRow w0.heap.size 101 3 (.slice Ao V.length co) V.length (V.flatMap kh))∧Hid (∀x∈V,mq wr x.1 x.2)∧Hid (Below w0.heap.size w0 wr)) (fun _ wr=>wr.rangeLeft w0.heap.size rb2)
     case atStart=>exact⟨[],[],_,bl2.length,none,0,rfl,rfl,by simp,vP bl2,HRG10,HROW0,(fun x hx=>(by cases hx)),HB10⟩
     case round=>
      clear HRG10 HROW0 HB10;obtain⟨C,V,left,ja,Ao,co,rfl,hvc,hcn,hco,hrg,hro,hid,hbw⟩:=hrel;rcases hrg.out.next with⟨hc0,hl0,hnx⟩|⟨q,v,w5,cnt',hok,hlx,hgx,hnx,hrg5,hlt5,hg5,hs5,hen⟩
      ·have HC:Hid (C.Nodup∧∀q,q∈C↔jX l q):=aa ⟨hco.out.nd,fun q=>by
        rw[←HBR.out q];exact⟨fun h=>(hco.out.sub q h).1,fun h=>hco.out.all q h (hl0 q (FU HSM.out ((HBR.out q).1 h)))⟩⟩
       have HRO:=aa hro.out;have HID:=aa hid.out;have HBW:=aa hbw.out;have HVL:=aa (show V.length≤1000000000 by have:=HBL10.out;omega);clear hl0 hrg hco hro hid hbw hcn;go_wp2_with fail;go_meet;exact⟨C,V,Ao,co,rfl,hvc,HVL.out,HC,HRO,HID,HBW⟩
      ·have hit:=dh hrg.out;obtain⟨qa,qb⟩:=q;change ∀ty,(Instr.next (.pointer (some ⟨rb2,0,none⟩)) false ty).run Tryz.prog wr= .ok (.tuple #[.bool true,.agg #[.string qa,.string qb],v]) w5 at hnx;change (Instr.entry (.pointer (some ⟨rb2,0,none⟩))).run Tryz.prog w5= .ok (.tuple #[.agg #[.string qa,.string qb],v]) w5 at hen;have hro5:=bG hro.out hg5 (fun b hb e=>bZ hro.out hit (by rw[hb,e]));have hid5:∀x∈V,mq w5 x.1 x.2:=fun x hx=>(hid.out x hx).kept hg5 (fun r e a b hh=>by
        obtain⟨m,s,e',c',hi⟩:=hit;rw[Option.some.inj e,hh]at hi;cases hi)
       have hb5:Below w0.heap.size w0 w5:=ak hbw.out hg5 (fun r e=>by rw[←Option.some.inj e];exact Nat.le_of_lt HRBG.out);obtain⟨w6,hw6⟩:∃w6,w5.alloc (.cells #[.string qa,.string qb] 87)=w6:=⟨_,rfl⟩;(have hb6:Below w5.heap.size w5 w6:=by rw[←hw6];exact(Below.refl _ _).alloc (Nat.le_refl _) _);(have hbx:w6.heap[w5.heap.size]? =some (.cells #[.string qa,.string qb] 87 (0,0)):=by rw[←hw6];exact heap_alloc_new _ _);have HCM:=aa (xm w5.heap.size qa qb w6 hbx);have HCO:=aa (hco.out.step hlx hgx)
       have HRG5:=aa hrg5;have HRO5:=aa hro5;have HID5:=aa hid5;have HB5:=aa hb5;have HB6:=aa hb6;have HRS5:Hid (rb2<w5.heap.size):=aa (by
        obtain⟨m,s,e',c',hi⟩:=dh hrg5;exact lt_of_block hi)
       have HMS:Hid (∀W,bD (kS Tryz.prog 87 (Maps.Keyed.of_law fu) iV) W w0.heap.size rb2 bl2 (fun y=>left y&& !decide (y=(qa,qb))) cnt'→W.rangeLeft w0.heap.size rb2<wr.rangeLeft w0.heap.size rb2):=aa (fun W h=>by rw[h.left_eq,hrg.out.left_eq];exact hlt5);have HCN:=aa (show V.length+1+cnt'≤bl2.length by omega);have HVC:=aa hvc;(have hvl:V.length≤900000000:=by have:=HBL10.out;omega);clear hco hrg hro hid hbw hit hro5 hid5 hb5 hb6 hbx hrg5 hlt5 hg5 hs5 hlx hgx hok hcn hvc;go_upto_region 51 with(fail)
       clear hw6 hnx hen;go_wp2_with (first
        |(go_at_call 36;refine HCM.out.mono ?_;rintro _ w7 ⟨vi,L,rfl,hidn,hg7⟩;have HIDN:=aa hidn;have HG7:=aa hg7;obtain⟨Ai,ni,ci,rfl⟩:=hidn.slice;clear hidn hg7;have HV7:=aa (Hc HB6.out HG7.out HRO5.out HID5.out HIDN.out HB5.out);clear HB5 HRO5 HID5 HIDN)
        |(at_builtin;go_must (refine wpList_append_lies _ rfl (.tmp 171) (.tmp 175) 27 rfl w0.heap.size 101 iv (.agg #[.string ⟨#[]⟩,.int .i64 0,.slice none 0 0]) 3 48 Tryz.underlying27 HIV.out HV0.out HV1.out HV2.out rfl (by decide) (.slice Ao V.length co) V.length (V.flatMap kh) rfl ?c0 ⟨w7.heap.size,0,none⟩ 1 1 [.string ⟨#[]⟩,.int .i64 2,.slice Ai ni ci] rfl rfl ?c1 ?c2 (by decide) ?c3 ?c4 ?c5 (w7.heap.size+1) ?c6 ?_)))
       case c0=>exact HV7.out.1
       case c1=>intro j u hj;exact World.news_of_block (cs:=#[.string ⟨#[]⟩,.int .i64 2,.slice Ai ni ci]) (t:=101) (fr:=(0,0)) (heap_alloc_new w7 _) j u hj
       case c2=>intro u hu;simp at hu;rcases hu with rfl|rfl|rfl<;>rfl
       case c3=>unfold maxLen;omega
       case c4=>omega
       case c5=>simpa using HV7.out.2.2.1.size
       case c6=>simp
       intro g9 cap w9 hown9 hgrow9 hat9 _;have HRG9:=aa (zL HRG5.out HB6.out HG7.out (Nat.lt_of_lt_of_le (lt_of_block (aC HRG5.out.map).choose_spec.choose_spec) (Nat.le_refl _)) HRS5.out HV7.out.1 hgrow9);have HV9:=aa (FV HV7.out.1 HV7.out.2.1 HV7.out.2.2.1 HV7.out.2.2.2 hgrow9);have HLE9:=aa (show Value.slice (some ⟨g9,0,none⟩) (V.length+1) cap= .slice (some ⟨g9,0,none⟩) (V++[((.slice Ai ni ci:Value),L)]).length cap by simp)
       have HRO9:Hid (w9.ownsRow w0.heap.size 101 3 (.slice (some ⟨g9,0,none⟩) (V++[((.slice Ai ni ci:Value),L)]).length cap) (V++[((.slice Ai ni ci:Value),L)]).length ((V++[((.slice Ai ni ci:Value),L)]).flatMap kh)):=by
        rw[←HLE9.out,List.length_append,List.flatMap_append];exact aa hown9
       clear hown9 hgrow9 hat9 HV7 HB6 HG7 HRG5;go_wp2_with fail;refine⟨⟨C++[(qa,qb)],V++[((.slice Ai ni ci:Value),L)],_,cnt',_,_,HLE9.out,by simp[HVC.out],by have:=HCN.out;simp;omega,HCO,HRG9,HRO9,aa HV9.out.1,aa HV9.out.2⟩,HMS.out _ HRG9.out⟩
    case rest=>
     obtain⟨C,V,Ao,co,rfl,hvc,hvl,hC,hro,hid,hbw⟩:=hcut;have HSR:=aa (Fz w0.heap.size V _ wc hro.out hid.out O9);have HVC:=aa hvc;have HC:=aa hC.out;have HG9:Hid (∀w9:World,wc.grownBy w9 (Value.slice Ao V.length co).ownBlock→Below w.heap.size w w9):=aa (fun w9 hg=>(HB4.out.trans ((ak hbw.out hg (fun r hr=>(aj hro.out hr).1)).mono HB4.out.size)));clear hvc hC hro hid hbw;go_wp2_with fail;refine HSR.out.mono ?_;rintro _ w9 ⟨rfl,hg9⟩;have HB9:=aa (HG9.out _ hg9);clear hg9 HSR HG9;go_wp2_with fail;go_ret
     exact⟨C,Ao,co,by rw[←HVC.out];rfl,HC.out.1,HC.out.2,HB9.out⟩
