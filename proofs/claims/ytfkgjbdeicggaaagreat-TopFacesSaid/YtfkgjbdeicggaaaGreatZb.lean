/-
  How the borders meet, walked.
-/
import Derived.Test.YtfkgjbdeicggaaaGreatZa
set_option maxHeartbeats 16000000
set_option maxRecDepth 100000
namespace Go.Proofs.YtfkgjbdeicggaaaGreat
open Go.RowKit Go.Proofs.Px Go.Proofs.Pn Go.Proofs.Pm Go.Proofs.Pg Go.Proofs.Pto
attribute [local go_sem] Oper.semAt_some run_makeMap eh ehx
theorem oU{a b:BA}(ha:a.size≤100000)(hb:b.size≤100000):iI (bC (a,b)):=by
 unfold iI bC ck eu;refine⟨?_,?_⟩<;>(simp only;split<;>omega)
theorem xk(a b:BA)(ha:a.size≤100000)(hb:b.size≤100000)(bx bb:Nat)(bl:List (Pr×Value))(w:World)(hbx:w.heap[bx]? =some (.cells #[.map (some bb)] 86 (0,0)))(hm:xc w bb bl)(hl:bl.length<1000000000):Calls Tryz.prog 31 #[.string a,.string b,.pointer (some ⟨bx,0,none⟩)] w fun e w'=>e= .returned (.tuple #[])∧xc w' bb (cR bl (bC (a,b)) (.bool true))∧w.grownBy w' (some bb):=by
 have x0:=(cD hbx).1;obtain⟨w2,hst,hml,htu⟩:=hm.store Tryz.underlying86 (by unfold maxLen;omega) (x:=bC (a,b)) (oU ha hb) (.bool true);change (Instr.mapUpdate 86 (.map (some bb)) (.agg #[.string (ck a b),.string (eu a b)]) (.bool true)).run _ _=_ at hst;have HML:=aa hml;have HTU:=aa htu;clear hm hml htu hbx;go_enter Tryz.func31,Tryz.ntmps31;go_wp2_with fail;go_end0;exact⟨rfl,HML.out,HTU.out.grown⟩
theorem Fu(S:List Sg):(ep S).length≤S.length*S.length:=by
 unfold ep;have key:∀(L:List Nat)(f:Nat→List Mt)(n:Nat),(∀i,(f i).length≤n)→(L.flatMap f).length≤L.length*n:=fun L f n h=>by
  induction L with
  |nil=>simp
  |cons i L ih=>
   rw[List.flatMap_cons,List.length_append,List.length_cons,Nat.succ_mul];have:=h i;omega
 have:=key (List.range S.length) (fun i=>(List.range S.length).filterMap fun k=>match S[i]?,S[k]? with
  |some s,some t=>if i<k∧meets s t≠0 then some ⟨i,k,meets s t⟩else none
  |_,_=>none) S.length (fun i=>by
   refine Nat.le_trans (List.length_filterMap_le _ _) ?_;rw[List.length_range];exact Nat.le_refl _)
 rw[List.length_range]at this;exact this
theorem CR{S:List Sg}{m m':Mt}(h:m∈ep S)(h':m'∈ep S)(ha:m.a=m'.a)(hb:m.b=m'.b):m.kind=m'.kind:=by
 obtain⟨s,t,h1,h2,_,_,h3⟩:=eR.1 h;obtain⟨s',t',h1',h2',_,_,h3'⟩:=eR.1 h';rw[ha,h1']at h1;rw[hb,h2']at h2;cases h1;cases h2;rw[h3,h3']
theorem uA{S:List Sg}{m:Mt}(h:m∈ep S):m.a<S.length∧m.b<S.length:=by
 obtain⟨s,t,h1,h2,_⟩:=eR.1 h;exact⟨(List.getElem?_eq_some_iff.1 h1).1,(List.getElem?_eq_some_iff.1 h2).1⟩
def CU(L:List Mt)(fl:List (Pt×Value)):Prop:=∀q v,aJ fl q=some v↔∃m∈L,q=⟨(m.a:Nat),(m.b:Nat)⟩∧v= .int .i64 m.kind
theorem CU.put{S:List Sg}{j:Nat}{m:Mt}{fl:List (Pt×Value)}(h:CU ((ep S).take j) fl)(hm:(ep S)[j]? =some m):CU ((ep S).take (j+1)) (cR fl ⟨(m.a:Nat),(m.b:Nat)⟩ (.int .i64 m.kind)):=by
 have hmm:=List.mem_of_getElem? hm;have e:(ep S).take (j+1)=(ep S).take j++[m]:=by rw[List.take_add_one,hm];rfl
 intro q v;rw[cC,e];by_cases hq:q=⟨(m.a:Nat),(m.b:Nat)⟩
 ·rw[if_pos hq];constructor
  ·intro hv;exact⟨m,by simp,hq,(Option.some.inj hv).symm⟩
  ·rintro⟨m',hm',hq',rfl⟩;have hin:m'∈ep S:=by
    rcases List.mem_append.1 hm' with h1|h1
    ·exact List.mem_of_mem_take h1
    ·simp at h1;rw[h1];exact hmm
   rw[hq]at hq';injection hq' with e1 e2;rw[CR hin hmm O9 O9]
 ·rw[if_neg hq,h q v];constructor
  ·rintro⟨m',hm',h2,h3⟩;exact⟨m',List.mem_append_left _ hm',h2,h3⟩
  ·rintro⟨m',hm',h2,h3⟩;rcases List.mem_append.1 hm' with h1|h1
   ·exact⟨m',h1,h2,h3⟩
   ·simp at h1;rw[h1]at h2;exact absurd h2 hq
def CV(W:World)(v:Value)(n:Nat):Prop:=∃A c,v= .slice A n c∧(n=0∨∃g o,A=some ⟨g,o,none⟩∧g<W.heap.size∧∀k,k<n→W.cell? ⟨g,o+k,none⟩=some (.int .i64 (k:Nat)))
theorem CV.below{W W':World}{v:Value}{n:Nat}(h:CV W v n)(hb:Below W.heap.size W W'):CV W' v n:=by
 obtain⟨A,c,hv,h⟩:=h;refine⟨A,c,hv,?_⟩;rcases h with h|⟨g,o,hA,hg,hp⟩
 ·exact .inl h
 ·exact .inr ⟨g,o,hA,Nat.lt_of_lt_of_le hg hb.size,fun k hk=>(hb.cell (p:=⟨g,_,none⟩) hg).trans (hp k hk)⟩
theorem jk{W:World}{g i b:Nat}{v:Value}(h:W.cell? ⟨g,i,none⟩=some v)(hb:∃es c,W.heap[b]? =some (.map es c)):g≠b:=by
 rintro rfl;obtain⟨es,c,hb⟩:=hb;simp[World.cell?,hb]at h
theorem CW{a b c:World}{r:Option Nat}(h:a.grownBy b r)(hb:Below b.heap.size b c):a.grownBy c r:=
 ⟨hb.os.trans h.os,hb.tape.trans h.tape,hb.output.trans h.output,Nat.le_trans h.size hb.size,fun i hi hne=>(hb.block i (Nat.lt_of_lt_of_le hi h.size)).trans (h.block i hi hne)⟩
theorem bt{a b c:World}{r:Option Nat}(h:a.grownBy b r)(k:b.grownBy c r):a.grownBy c r:=
 ⟨k.os.trans h.os,k.tape.trans h.tape,k.output.trans h.output,Nat.le_trans h.size k.size,fun i hi hne=>(k.block i (Nat.lt_of_lt_of_le hi h.size) hne).trans (h.block i hi hne)⟩
theorem jL{a b c:World}{r:Option Nat}(h:Below a.heap.size a b)(k:b.grownBy c r):a.grownBy c r:=bt ⟨h.os,h.tape,h.output,h.size,fun i hi _=>h.block i hi⟩ k
theorem qZ(m:Mt):(fR m).length=3:=rfl
theorem zu{W:World}{B g n c:Nat}{M:List Mt}(h:W.ownsRow B 73 3 (.slice (some ⟨g,0,none⟩) n c) M.length (M.flatMap fR)){j:Nat}{m:Mt}(hm:M[j]? =some m):W.cell? ⟨g,j*3,none⟩=some (.int .i64 (m.a:Nat))∧W.cell? ⟨g,j*3+1,none⟩=some (.int .i64 (m.b:Nat))∧W.cell? ⟨g,j*3+2,none⟩=some (.int .i64 m.kind):=by
 have key:∀i u,(M.flatMap fR)[i]? =some u→W.cell? ⟨g,i,none⟩=some u:=by
  intro i u hi;have:=h.cells (g:=g) rfl i u hi;have e:(⟨g,0,none⟩:Addr).add i=⟨g,i,none⟩:=by simp only[Addr.add,Nat.zero_add];split<;>simp_all
  rw[←e];exact this
 have k0:=dK qZ M j 0 O9;have k1:=dK qZ M j 1 O9;have k2:=dK qZ M j 2 O9;rw[hm]at k0 k1 k2;exact⟨key _ _ k0,key _ _ k1,key _ _ k2⟩
theorem CX(S:List Sg)(av lv:Value)(fb:Nat)(w:World)(hs:Bd w av S)(hl:CV w lv S.length)(hn:S.length≤1000)(hm:Bf w fb []):Calls Tryz.prog 34 #[av,lv,.map (some fb)] w fun e w'=>e= .returned (.tuple #[])∧w.grownBy w' (some fb)∧∃fl,Bf w' fb fl∧CU (ep S) fl∧fl.length≤1000000:=by
 obtain⟨i0,hi0,hz0,hz1,hz2⟩:=aM xi;have HI0:=aa hi0;have HZ0:=aa hz0;have HZ1:=aa hz1;have HZ2:=aa hz2;clear hi0 hz0 hz1 hz2;obtain⟨A,c,rfl,hA⟩:=hs;obtain⟨Al,cl,rfl,hAl⟩:=hl;have HA:=aa hA;have HAL:=aa hAl;obtain⟨n,hnn⟩:∃n,S.length=n:=⟨_,rfl⟩;have HN:=aa hnn;have HM:=aa hm;rw[hnn]at HAL hn ⊢;clear hA hAl hnn hm;go_enter Tryz.func34,Tryz.ntmps34;go_wp2_with fail
 go_loopw [6,7,8,28] (fun vo u7 u8 i wr=>∃(k:Nat)(Ao:Option Addr)(co:Nat)(lo hi:Int),k≤n∧i= .int .i64 k∧vo= .slice Ao k co∧u7= .int .i64 lo∧u8= .int .i64 hi∧Hid (wr.ownsRow w.heap.size 68 4 (.slice Ao k co) k ((S.take k).flatMap kA))∧Hid (Below w.heap.size w wr)) (fun _ _ _ i _=>n-(intOf i).toNat)
 case atStart=>exact⟨0,none,0,0,0,Nat.zero_le _,rfl,rfl,rfl,rfl,World.ownsRow_nil _ _ _ _,Below.refl _ _⟩
 case round=>
  obtain⟨k,Ao,co,lo,hi,hk,rfl,rfl,rfl,rfl,hro,hbw⟩:=hrel;by_cases hlt:k<n
  ·(have hlt2:k<S.length:=by rw[HN.out];exact hlt);obtain⟨g,o,rfl,hg,hp⟩:=HA.out.resolve_left (by intro e;rw[e]at hlt2;simp at hlt2);obtain⟨gl,ol,rfl,hgl,hpl⟩:=HAL.out.resolve_left O9;obtain⟨d0,d1,d2,d3⟩:=hp k _ (List.getElem?_eq_getElem hlt2);have l0:=(hbw.out.cell (p:=⟨gl,_,none⟩) hgl).trans (hpl k hlt);replace d0:=(hbw.out.cell (p:=⟨g,_,none⟩) hg).trans d0;replace d1:=(hbw.out.cell (p:=⟨g,_,none⟩) hg).trans d1;replace d2:=(hbw.out.cell (p:=⟨g,_,none⟩) hg).trans d2
   replace d3:=(hbw.out.cell (p:=⟨g,_,none⟩) hg).trans d3;have HTK:Hid ((S.take (k+1)).flatMap kA=(S.take k).flatMap kA++kA S[k]):=aa (by
    rw[List.take_add_one,List.getElem?_eq_getElem hlt2,List.flatMap_append];simp)
   generalize S[k]=s at*;obtain⟨⟨x1,y1⟩,⟨x2,y2⟩⟩:=s;simp only at d0 d1 d2 d3;have HSE:Hid (kA ⟨⟨x1,y1⟩,⟨x2,y2⟩⟩=[.int .i64 x1,.int .i64 y1,.int .i64 x2,.int .i64 y2]):=aa rfl;have k0:(0:Int)≤k:=O9;have k1:(k:Int)<(n:Nat):=O9;have HL:=aa hlt;have HMS:=aa (show n-(k+1)<n-k from by omega);have hba:Below wr.heap.size wr (wr.alloc (.cells #[.int .i64 x1,.int .i64 y1,.int .i64 x2,.int .i64 y2] 68)):=(Below.refl _ _).alloc (Nat.le_refl _) _
   have hnb:=heap_alloc_new wr (.cells #[.int .i64 x1,.int .i64 y1,.int .i64 x2,.int .i64 y2] 68);obtain⟨wd,hwd⟩:∃wd,wr.alloc (.cells #[.int .i64 x1,.int .i64 y1,.int .i64 x2,.int .i64 y2] 68)=wd:=⟨_,rfl⟩;rw[hwd]at hba hnb
   obtain⟨e0,e1,e2,e3⟩:wd.cell? ⟨wr.heap.size,0,none⟩=some (.int .i64 x1)∧wd.cell? ⟨wr.heap.size,1,none⟩=some (.int .i64 y1)∧wd.cell? ⟨wr.heap.size,2,none⟩=some (.int .i64 x2)∧wd.cell? ⟨wr.heap.size,3,none⟩=some (.int .i64 y2):=⟨cell_of_row wd _ 0 _ _ _ hnb,cell_of_row wd _ 1 _ _ _ hnb,cell_of_row wd _ 2 _ _ _ hnb,cell_of_row wd _ 3 _ _ _ hnb⟩;have hbb:Below wd.heap.size wd (wd.alloc (.cells #[.int .i64 x1,.int .i64 y1,.int .i64 x2,.int .i64 y2] 68)):=(Below.refl _ _).alloc (Nat.le_refl _) _
   have HRO:=aa (ao hro.out (aq hba hbb));have HBW:=aa (aq hbw.out (aq hba hbb));have HNB:=aa (ai hbb hnb);have HOB:Hid (∀b,(Value.slice Ao k co).ownBlock=some b→b<wr.heap.size):=aa (fun b hb=>(aj hro.out hb).2);clear hro hbw hlt hlt2 hp hpl hba hnb hbb
   go_wp2_with (at_builtin;go_must (refine wpList_append_lies _ rfl (.tmp 37) (.tmp 39) 54 rfl w.heap.size 68 i0 (.agg #[.int .i64 0,.int .i64 0,.int .i64 0,.int .i64 0]) 4 32 Tryz.underlying54 HI0.out HZ0.out HZ1.out HZ2.out rfl (by decide) (.slice Ao k co) k ((S.take k).flatMap kA) rfl ?c0 ⟨wd.heap.size,0,none⟩ 1 1 [.int .i64 x1,.int .i64 y1,.int .i64 x2,.int .i64 y2] rfl rfl ?c1 ?c2 (by decide) ?c3 ?c4 ?c5 (wd.heap.size+1) ?c6 ?_))
   case c0=>exact HRO.out
   case c1=>intro j u hj;exact World.news_of_block (cs:=#[.int .i64 x1,.int .i64 y1,.int .i64 x2,.int .i64 y2]) (t:=68) (fr:=(0,0)) (heap_alloc_new wd _) j u hj
   case c2=>intro u hu;simp at hu;rcases hu with rfl|rfl|rfl|rfl<;>rfl
   case c3=>unfold maxLen;omega
   case c4=>omega
   case c5=>simpa using HBW.out.size
   case c6=>simp
   intro g9 cap w9 hown9 hgrow9 hat9 _;have hb9:w9.heap[wr.heap.size]? =some (.cells #[.int .i64 x1,.int .i64 y1,.int .i64 x2,.int .i64 y2] 68 (0,0)):=(hgrow9.block _ (lt_of_block HNB.out) (fun e=>by have:=HOB.out _ e.symm;omega)).trans HNB.out;have HRO9:Hid (w9.ownsRow w.heap.size 68 4 (.slice (some ⟨g9,0,none⟩) (k+1) cap) (k+1) ((S.take (k+1)).flatMap kA)):=aa (by rw[HTK.out,HSE.out];exact hown9);have HBW9:=aa (ak HBW.out hgrow9 (fun r hr=>(aj HRO.out hr).1));have HB9:=aa hb9
   clear hown9 hgrow9 hat9 HRO HBW HNB HOB e0 e1 e2 e3 d0 d1 d2 d3 l0 hwd hb9;obtain⟨bx,hbx⟩:∃bx,wr.heap.size=bx:=⟨_,rfl⟩;rw[hbx]at HB9;have e0:w9.cell? ⟨bx,0,none⟩=some (.int .i64 x1):=cell_of_row w9 _ 0 _ _ _ HB9.out;have e2:w9.cell? ⟨bx,2,none⟩=some (.int .i64 x2):=cell_of_row w9 _ 2 _ _ _ HB9.out;by_cases hk0:k=0
   ·(have hk1:(k:Int)≤0:=by omega);have HK0:=aa hk0;clear hk0;go_wp2_with fail;go_quiet (fail);have HROA:=aa (ao HRO9.out (below_drewN w9 nq));have HBWA:=aa (aq HBW9.out (below_drewN w9 nq));have e0':(w9.drewN nq).cell? ⟨bx,0,none⟩=some (.int .i64 x1):=e0;have e2':(w9.drewN nq).cell? ⟨bx,2,none⟩=some (.int .i64 x2):=e2;clear e0 e2 HRO9 HBW9 HB9;generalize w9.drewN nq=wy at*;generalize min x1 x2=lo1 at*;generalize max x1 x2=hi1 at*;go_wp2_with fail;go_quiet (fail)
    have HROB:=aa (ao HROA.out (below_drewN wy nq));have HBWB:=aa (aq HBWA.out (below_drewN wy nq));go_wp2_with fail;refine⟨⟨k+1,some ⟨g9,0,none⟩,cap,_,_,HL.out,by go_num,rfl,rfl,rfl,HROB,HBWB⟩,?_⟩;have:=HMS.out;simp[intOf];omega
   ·(have hk1:(0:Int)<k:=by omega);clear hk0;go_wp2_with fail;go_quiet (fail);have HROB:=aa (ao HRO9.out (below_drewN w9 nq));have HBWB:=aa (aq HBW9.out (below_drewN w9 nq));go_wp2_with fail;refine⟨⟨k+1,some ⟨g9,0,none⟩,cap,_,_,HL.out,by go_num,rfl,rfl,rfl,HROB,HBWB⟩,?_⟩;have:=HMS.out;simp[intOf];omega
  ·(obtain rfl:k=n:=by omega);have k1:¬(k:Int)<(k:Nat):=O9;have HSG:Hid (Bd wr (.slice Ao k co) S):=aa (by
    have h1:=hro.out;have h2:=HN.out;subst h2;rw[List.take_length]at h1;exact qX h1)
   have HSW:=aa (CJ S _ wr HSG.out (by have:=HN.out;omega));have HBW:=aa hbw.out;have k2:(k:Int)≤20000:=O9;clear hro hbw hlt;go_wp2_with fail;refine HSW.out.mono ?_;rintro _ w5 ⟨pv,rfl,hp5,hb5⟩;have hlen:(ep S).length≤1000000:=by
    have h1:=Fu S;rw[HN.out]at h1;have h2:k*k≤1000*1000:=Nat.mul_le_mul hn hn;omega
   obtain⟨A5,c5,rfl⟩:=pZ hp5;have HP5:=aa hp5;have HB5:=aa (aq HBW.out hb5);have HM5:=aa (HM.out.kept (aI (aq HBW.out hb5)) (by simp));obtain⟨pn,hpn⟩:∃pn,(ep S).length=pn:=⟨_,rfl⟩;have HPN:=aa hpn;rw[hpn]at HP5 hlen ⊢;clear hp5 hb5 HSW HSG hpn k1 k2;go_wp2_with fail;go_loopw [84] (fun i wr=>∃(j:Nat)(fl:List (Pt×Value)),j≤pn∧i= .int .i64 j∧fl.length≤j∧Hid (CU ((ep S).take j) fl)∧Hid (Bf wr fb fl)∧Hid (w5.grownBy wr (some fb))) (fun i _=>pn-(intOf i).toNat)
   case atStart=>exact⟨0,[],Nat.zero_le _,rfl,Nat.le_refl _,(fun q v=>by simp[aJ]),HM5,⟨rfl,rfl,rfl,Nat.le_refl _,fun _ _ _=>rfl⟩⟩
   case round=>
    obtain⟨j,fl,hj,rfl,hfl,hfr,hmt,hgw⟩:=hrel;by_cases hlt:j<pn
    ·obtain⟨m,hm⟩:∃m,(ep S)[j]? =some m:=⟨_,List.getElem?_eq_getElem (by rw[HPN.out];exact hlt)⟩;have hml:=uA (List.mem_of_getElem? hm);rw[HN.out]at hml;have HF9:=aa (hfr.out.put hm);have hp5:=HP5.out;rw[←HPN.out]at hp5;obtain⟨g5,cap5,hv5,_,_⟩:=hp5.form (by rw[HPN.out];omega);rw[HPN.out]at hv5;rw[Value.slice.injEq]at hv5;obtain⟨rfl,hnl,rfl⟩:=hv5;clear hnl;have hp6:=bG hp5 hgw.out (fun b hb e=>aH hp5 (aC HM5.out) (by rw[hb];exact e.symm));obtain⟨q0,q1,q2⟩:=zu hp6 hm
     obtain⟨gl,ol,rfl,hgl,hpl⟩:=HAL.out.resolve_left O9;have hglf:gl≠fb:=jk (hpl m.a hml.1) (aC HM.out);have hcl:∀i,i<k→wr.cell? ⟨gl,ol+i,none⟩=some (.int .i64 (i:Nat)):=fun i hi=>by
      have e1:wr.heap[gl]? =w.heap[gl]? :=(hgw.out.block gl (Nat.lt_of_lt_of_le hgl HB5.out.size) (fun e=>hglf (Option.some.inj e))).trans (HB5.out.block gl hgl);exact(World.cell?_of_block (a:=⟨gl,ol+i,none⟩) e1).trans (hpl i hi)
     have hba:Below wr.heap.size wr (wr.alloc (.cells #[.int .i64 (m.a:Nat),.int .i64 (m.b:Nat),.int .i64 m.kind] 73)):=(Below.refl _ _).alloc (Nat.le_refl _) _;have hnb:=heap_alloc_new wr (.cells #[.int .i64 (m.a:Nat),.int .i64 (m.b:Nat),.int .i64 m.kind] 73);have hla:(wr.alloc (.cells #[.int .i64 (m.a:Nat),.int .i64 (m.b:Nat),.int .i64 m.kind] 73)).cell? ⟨gl,ol+m.a,none⟩=some (.int .i64 (m.a:Nat)):=(hba.cell (p:=⟨gl,_,none⟩) (Nat.lt_of_lt_of_le hgl (jL HB5.out hgw.out).size)).trans (hcl m.a hml.1)
     have hlb:(wr.alloc (.cells #[.int .i64 (m.a:Nat),.int .i64 (m.b:Nat),.int .i64 m.kind] 73)).cell? ⟨gl,ol+m.b,none⟩=some (.int .i64 (m.b:Nat)):=(hba.cell (p:=⟨gl,_,none⟩) (Nat.lt_of_lt_of_le hgl (jL HB5.out hgw.out).size)).trans (hcl m.b hml.2);have hmd:=hmt.out.kept (aI (aq hba (aA _))) (by simp);obtain⟨W3,hst,hml3,htu⟩:=hmd.store Tryz.underlying95 (by unfold maxLen;omega) (x:=⟨(m.a:Nat),(m.b:Nat)⟩) (by unfold Pm.ptKeys nx;simp only;omega) (.int .i64 m.kind)
     change (Instr.mapUpdate 95 (.map (some fb)) (.agg #[.int .i64 (m.a:Nat),.int .i64 (m.b:Nat)]) (.int .i64 m.kind)).run _ _=_ at hst;have HM3:=aa hml3;have HG3:=aa (bt (CW hgw.out (aq hba (aA _))) htu.grown);have HST:=aa hst;have HL:=aa hlt;have HMS:=aa (show pn-(j+1)<pn-j from by omega);have HFL:=aa hfl
     obtain⟨c0,c1⟩:(wr.alloc (.cells #[.int .i64 (m.a:Nat),.int .i64 (m.b:Nat),.int .i64 m.kind] 73)).cell? ⟨wr.heap.size,0,none⟩=some (.int .i64 (m.a:Nat))∧(wr.alloc (.cells #[.int .i64 (m.a:Nat),.int .i64 (m.b:Nat),.int .i64 m.kind] 73)).cell? ⟨wr.heap.size,1,none⟩=some (.int .i64 (m.b:Nat)):=⟨cell_of_row _ _ 0 _ _ _ hnb,cell_of_row _ _ 1 _ _ _ hnb⟩
     have c2:(wr.alloc (.cells #[.int .i64 (m.a:Nat),.int .i64 (m.b:Nat),.int .i64 m.kind] 73)).cell? ⟨wr.heap.size,2,none⟩=some (.int .i64 m.kind):=cell_of_row _ _ 2 _ _ _ hnb;have j0:(0:Int)≤j:=O9;have j1:(j:Int)<(pn:Nat):=O9;clear hm hp5 hp6 hpl hcl hglf hba hnb hmd hml3 htu hst hfr hmt hgw hlt hfl;generalize m.a=ma at*;generalize m.b=mb at*;generalize m.kind=mk at*;obtain⟨ml1,ml2⟩:=hml;have a1:(ma:Int)<(k:Nat):=O9;have b1:(mb:Int)<(k:Nat):=O9;have a0:(0:Int)≤(ma:Int):=O9
     have b0:(0:Int)≤(mb:Int):=O9;go_wp2_with fail;generalize wr.alloc _=wo at*;go_still_tail 14,K9;have hst:=HST.out;clear HST;change wpList _ _ _ _ _ wo.drew;go_wp2_with fail;refine⟨⟨j+1,_,HL.out,by go_num,?_,HF9,HM3,HG3⟩,?_⟩
     ·rw[dF];have:=HFL.out;split<;>omega
     ·have:=HMS.out;simp[intOf];omega
    ·(have k1:¬(j:Int)<(pn:Nat):=by omega);have HF:Hid (CU (ep S) fl):=aa (by
      have h1:=hfr.out;rw[List.take_of_length_le (by rw[HPN.out];omega)]at h1;exact h1)
     have HMT:=aa hmt.out;have HG:=aa (jL HB5.out hgw.out);have HFL:=aa (show fl.length≤1000000 by omega);clear hfr hmt hgw hlt;go_wp2_with fail;exact bodyPost_ret (v:=.tuple #[]) (by simp[results,Tryz.results34,go_sem]) rfl ⟨rfl,HG.out,fl,HMT.out,HF.out,HFL.out⟩
end Go.Proofs.YtfkgjbdeicggaaaGreat
namespace Go.Proofs.YtfkgjbdeicggaaaGreat
open Go.RowKit Go.Proofs.Px Go.Proofs.Pn Go.Proofs.Pm Go.Proofs.Pg Go.Proofs.Pto Go.Proofs.Pf
attribute [local go_sem] Oper.semAt_some
theorem zv(W:World)(v:Value)(L:List BA)(s:BA)(h:ff W v L)(hl:L.length≤100000)(hs:s∈L):Calls Tryz.prog 89 #[v,.string s] W fun e w'=>e= .returned (.int .i64 ((L.findIdx (fun x=>decide (x=s)):Nat):Int))∧w'=W:=by
 have hi:L.findIdx (fun x=>decide (x=s))<L.length:=List.findIdx_lt_length_of_exists ⟨s,hs,decide_eq_true rfl⟩;obtain⟨A,c,rfl,_,hA⟩:=h;rcases hA with rfl|⟨g,o,rfl,_,hp⟩
 ·cases hs
 ·refine(Tryz.slices_Index_string g o L.length c L s W (Nat.le_refl _) O9 (fun j hj=>?_)).mono ?_
  ·rw[List.getD_eq_getElem?_getD,List.getElem?_eq_getElem hj];exact hp j _ (List.getElem?_eq_getElem hj)
  ·rintro e w' ⟨rfl,rfl⟩;refine⟨?_,rfl⟩;rw[Lib.idxOfS_hit L L.length _ s hi (Nat.le_refl _) (by
    rw[List.getD_eq_getElem?_getD,List.getElem?_eq_getElem hi];exact of_decide_eq_true (List.findIdx_getElem (w:=hi))) (fun j hj=>by
    rw[List.getD_eq_getElem?_getD,List.getElem?_eq_getElem O9];have:=List.not_of_lt_findIdx hj;simpa using this)]
theorem p5{W:World}{g:Nat}{a b u v:Value}{t:TypeId}(h:W.heap[g]? =some (.cells #[a,b] t (0,0))):((W.setCell ⟨g,0,none⟩ u).setCell ⟨g,1,none⟩ v).heap[g]? =some (.cells #[u,v] t (0,0)):=by
 rw[Sort.setCell_eq,Sort.setCell_eq];simp[Sort.mapBlock,Array.getElem?_modify,h,Sort.onCells]
theorem CY{w W:World}{g:Nat}{u v:Value}(h:Below w.heap.size w W)(hg:w.heap.size≤g):Below w.heap.size w ((W.setCell ⟨g,0,none⟩ u).setCell ⟨g,1,none⟩ v):=by
 have hone:∀(W:World)(i:Nat)(u:Value),W.grownBy (W.setCell ⟨g,i,none⟩ u) (some g):=fun W i u=>⟨rfl,rfl,rfl,by simp,fun k _ hne=>Below.heap_setCell W ⟨g,i,none⟩ u k (fun e=>hne (by rw[e]))⟩;exact ak h (bt (hone W 0 u) (hone _ 1 v)) (fun r e=>by cases e;exact hg)
theorem CZ(l:List Ob)(nb:BA→List BA)(P:BA→BA)(w:World)(x ba bn bp:Nat)(sv:Value)(la ln lp:List (BA×Value))(h:Gd l nb P w x ba bn bp sv la ln lp)(hn:kD l nb)(s:eM)(hs:s∈an l)(hfew:(nb s.2).length≤1000)(hk:s.2.size≤maxLen):Calls Tryz.prog 98 #[.pointer (some ⟨x,0,none⟩),.agg #[.string s.1,.string s.2]] w fun e w'=>e= .returned (.agg #[.string (gw nb s).1,.string (gw nb s).2])∧Below w.heap.size w w':=by
 obtain⟨i,k,hi,hkl,e1,e2,e3⟩:=hn.place hs;obtain⟨v,hv1,hv2⟩:=h.nbs (swp s) (bI.2 hs);have hmem:s.1∈nb s.2:=(hn.mem _ _).2 (bI.2 hs);have hfi:(nb s.2).findIdx (fun x=>decide (x=s.1))<(nb s.2).length:=List.findIdx_lt_length_of_exists ⟨s.1,hmem,decide_eq_true rfl⟩;have hlp:0<(nb s.2).length:=O9;have HAF:Hid (gw nb s=(s.2,(nb s.2)[((nb s.2).findIdx (fun x=>decide (x=s.1))+(nb s.2).length-1)%(nb s.2).length]'(Nat.mod_lt _ hlp))):=aa (by
  unfold gw;rw[List.getD_eq_getElem?_getD,List.getElem?_eq_getElem (Nat.mod_lt _ hlp)];rfl)
 obtain⟨a,b⟩:=s;simp only[swp]at hv1 hv2 hmem hfi HAF hfew hk hlp ⊢;clear e1 e2 e3 hkl hi;generalize nb b=L at*;obtain⟨w2,hw2⟩:∃w2,(w.alloc (.cells #[.string a,.string b] 114)).alloc (.cells #[.string ⟨#[]⟩,.string ⟨#[]⟩] 114)=w2:=⟨_,rfl⟩;have hb2:Below w.heap.size w w2:=by rw[←hw2];exact((Below.refl _ _).alloc (Nat.le_refl _) _).alloc (by simp) _
 have x1:w2.heap[w.heap.size]? =some (.cells #[.string a,.string b] 114 (0,0)):=by rw[←hw2];exact dU _ (cj _ _ _ rfl)
 have x2:w2.heap[w.heap.size+1]? =some (.cells #[.string ⟨#[]⟩,.string ⟨#[]⟩] 114 (0,0)):=by rw[←hw2];exact cj _ _ _ (by simp)
 have hQ:=h.below hb2;have hbox:=cell_of_row _ _ 1 _ _ _ hQ.box;obtain⟨⟨y1,y2⟩,y3,y4⟩:=aW x1;obtain⟨⟨z1,z2⟩,z3,z4⟩:=aW x2;have hlook:(Instr.lookup 179 (.map (some bn)) (.string b) false).run Tryz.prog w2.drew=_:=hQ.mnb.drew.look Tryz.underlying179 ee (x:=b) hk;rw[hv1,Option.getD_some]at hlook;have hv3:=hv2.below hb2;obtain⟨A,c,rfl,hc,hA⟩:=hv2;have HSI:=aa (zv w2.drew (.slice A L.length c) L a (by
  obtain⟨A',c',q1,q2,q3⟩:=hv3;exact⟨A',c',q1,q2,q3⟩) O9 hmem)
 obtain⟨g,o,rfl,hg,hp⟩:=hA.resolve_left (by rintro rfl;simp at hlp);have hm:=Nat.mod_lt (L.findIdx (fun x=>decide (x=a))+L.length-1) hlp;have hcl:w2.drew.cell? ⟨g,o+(L.findIdx (fun x=>decide (x=a))+L.length-1)%L.length,none⟩=some (.string (L[(L.findIdx (fun x=>decide (x=a))+L.length-1)%L.length]'hm)):=(hb2.drew.cell (p:=⟨g,_,none⟩) hg).trans (hp _ _ (List.getElem?_eq_getElem hm))
 have hrem:((L.findIdx (fun x=>decide (x=a)):Nat)+(L.length:Int)-1).tmod L.length=(((L.findIdx (fun x=>decide (x=a))+L.length-1)%L.length:Nat):Int):=by
  rw[Int.tmod_eq_emod_of_nonneg O9];push_cast;rw[show((L.findIdx (fun x=>decide (x=a))+L.length-1:Nat):Int)=(L.findIdx (fun x=>decide (x=a)):Nat)+(L.length:Int)-1 from by omega]
 have HY1:Hid (w2.drew.cell? ⟨w.heap.size,0,none⟩=some (.string a)):=aa y1;have HY2:Hid (w2.drew.cell? ⟨w.heap.size,1,none⟩=some (.string b)):=aa y2;have HX2:Hid (w2.drew.heap[w.heap.size+1]? =some (.cells #[.string ⟨#[]⟩,.string ⟨#[]⟩] 114 (0,0))):=aa x2;have HB2:=aa hb2.drew;have HCL:=aa hcl;rw[HAF.out];simp only;clear hQ x1 h hv1 x2 hb2 hv3 hp hA hmem HAF hcl z1 z2 z3 z4;generalize L[(L.findIdx (fun x=>decide (x=a))+L.length-1)%L.length]=u at*
 generalize (L.findIdx (fun x=>decide (x=a))+L.length-1)%L.length=m at*;generalize L.findIdx (fun x=>decide (x=a))=j at*;generalize L.length=n at*;go_enter Tryz.func98,Tryz.ntmps98;go_upto_region 1 with(fail);clear hw2
 go_still K9
 change Exit.then _ _ _ _ w2.drew
 clear y1 y2 y3 y4 hbox hlook;have y1:=HY1.out;have y2:=HY2.out;generalize w2.drew=wa at*;go_wp2_with fail;refine HSI.out.mono ?_;rintro _ _ ⟨rfl,rfl⟩;go_upto_region 3 with(fail);have hcl:=HCL.out;have hm0:(0:Int)≤m:=O9;have hmn:(m:Int)<n:=O9;have hj0:(0:Int)≤j:=O9;have hj1:(j:Int)<n:=O9;have hn1:(n:Int)≤1000:=O9;have hn0:¬n=0:=O9;have hw1:IntKind.i64.wrap ((j:Int)+n)=j+n:=by simp[IntKind.wrap,IntKind.signed,IntKind.bits];omega
 have hw2:IntKind.i64.wrap ((j:Int)+n-1)=j+n-1:=by simp[IntKind.wrap,IntKind.signed,IntKind.bits];omega
 go_still_tail 14,K9;change wpList _ _ _ _ _ (World.drew _);have x2:=HX2.out;obtain⟨⟨r0,r1⟩,r2,r3⟩:=aW x2;have hfin:=p5 (u:=.string b) (v:=.string u) x2;have hbel:=CY (u:=.string b) (v:=.string u) HB2.out (Nat.le_succ w.heap.size);obtain⟨⟨t0,t1⟩,_⟩:=aW hfin;have HF:=aa hbel.drew;clear x2 hfin hbel;go_wp2_with fail;refine bodyPost_ret (v:=.agg #[.string b,.string u]) (by simp[results,Tryz.results98,go_sem,t0,t1]) rfl ⟨rfl,HF.out⟩
end Go.Proofs.YtfkgjbdeicggaaaGreat
namespace Go.Proofs.Pf
open Go Go.Proofs.Pg Go.Proofs.Px Go.Proofs.Pn Go.Proofs.Pto Go.Proofs.Pm
def endsB(B:List Pr):List BA:=B.flatMap fun p=>[p.1,p.2]
theorem iq{B:List Pr}{v:BA}:v∈endsB B↔∃p∈B,fj p v:=by
 unfold endsB fj;simp only[List.mem_flatMap,List.mem_cons,List.not_mem_nil,or_false]
theorem fE(B:List Pr)(p:Pr)(v:BA):v∈endsB (B++[p])↔v∈endsB B∨v=p.1∨v=p.2:=by
 unfold endsB;rw[List.flatMap_append,List.mem_append];simp
def pK(p:Pr)(v:BA):List BA:=(if v=p.1 then [p.2]else [])++(if v=p.2 then [p.1]else [])
def dT(B:List Pr)(v:BA):List BA:=B.flatMap fun p=>pK p v
theorem C3(B:List Pr)(p:Pr)(v:BA):dT (B++[p]) v=dT B v++pK p v:=by
 unfold dT;rw[List.flatMap_append];simp
theorem nR{p:Pr}{v w:BA}:w∈pK p v↔(v,w)=p∨(w,v)=p:=by
 unfold pK;rw[List.mem_append];constructor
 ·rintro(h|h)
  ·by_cases e:v=p.1
   ·rw[if_pos e,List.mem_singleton]at h;exact .inl (Prod.ext e h)
   ·rw[if_neg e]at h;cases h
  ·by_cases e:v=p.2
   ·rw[if_pos e,List.mem_singleton]at h;exact .inr (Prod.ext h e)
   ·rw[if_neg e]at h;cases h
 ·rintro(rfl|rfl)
  ·exact .inl (by simp)
  ·exact .inr (by simp)
theorem ll{B:List Pr}{v w:BA}:w∈dT B v↔(v,w)∈B∨(w,v)∈B:=by
 unfold dT;rw[List.mem_flatMap];constructor
 ·rintro⟨p,hp,h⟩;rcases nR.1 h with rfl|rfl
  ·exact .inl hp
  ·exact .inr hp
 ·rintro(h|h)
  ·exact⟨_,h,nR.2 (.inl rfl)⟩
  ·exact⟨_,h,nR.2 (.inr rfl)⟩
theorem iW{l:List Ob}{v w:BA}:w∈dT (af l) v↔(v,w)∈an l:=by
 rw[ll,ev];exact Iff.rfl
theorem G4{B:List Pr}{v:BA}:dT B v≠[]↔v∈endsB B:=by
 rw[iq];constructor
 ·intro h;obtain⟨w,hw⟩:=List.exists_mem_of_ne_nil _ h;rcases ll.1 hw with h|h
  ·exact⟨_,h,.inl rfl⟩
  ·exact⟨_,h,.inr rfl⟩
 ·rintro⟨p,hp,rfl|rfl⟩ e
  ·have:p.2∈dT B p.1:=ll.2 (.inl hp);rw[e]at this;cases this
  ·have:p.1∈dT B p.2:=ll.2 (.inr hp);rw[e]at this;cases this
theorem Bh:∀ {B:List Pr},B.Nodup→(∀p∈B,fK p.1 p.2=true)→∀v,(dT B v).Nodup
 | [],_,_,_=>List.nodup_nil
 |p::B,f,a,v=>by
  obtain⟨d,h⟩:=List.nodup_cons.1 f;have hp:=a p (List.mem_cons_self ..);have i:=Bh h (fun q j=>a q (List.mem_cons_of_mem _ j)) v;show(pK p v++dT B v).Nodup;refine List.nodup_append.2 ⟨?_,i,fun w hw x hx e=>?_⟩
  ·unfold pK;by_cases b:v=p.1<;>by_cases c:v=p.2
   ·rw[←b,←c,bj]at hp;cases hp
   ·rw[if_pos b,if_neg c];simp
   ·rw[if_neg b,if_pos c];simp
   ·rw[if_neg b,if_neg c];simp
  ·subst e;rcases nR.1 hw with rfl|rfl<;>rcases ll.1 hx with g|g
   ·exact d g
   ·have:=a _ (List.mem_cons_of_mem _ g);have:=dg hp this;rw[bj]at this;cases this
   ·have:=a _ (List.mem_cons_of_mem _ g);have:=dg hp this;rw[bj]at this;cases this
   ·exact d g
theorem q8(B:List Pr)(v:BA):(dT B v).length≤2*B.length:=by
 unfold dT;induction B with
 |nil=>exact Nat.le_refl _
 |cons p B a=>
  rw[List.flatMap_cons,List.length_append,List.length_cons];have:(pK p v).length≤2:=by
   unfold pK;rw[List.length_append];split<;>split<;>simp
  omega
theorem Bj{v a b:Pt}(h:Pri.Corner a v b)(f:¬kq v a b):kq v b a:=by
 unfold kq low at*;have e:=iC a v b;have c:=h.str;have ha:=Pri.pt_ne h.ab;have hb:=Pri.pt_ne h.bc;by_cases d:ae a v b=0
 ·have g:=c d;omega
 ·omega
theorem q9{ax ay bx a cx cy:Int}(ha:0<ay∨ay=0∧0≤ax)(hb:0<a∨a=0∧0≤bx)(d:0<cy∨cy=0∧0≤cx)(f:ay*bx-ax*a<0)(i:a*cx-bx*cy<0):ay*cx-ax*cy<0:=by
 have hid:a*(ay*cx-ax*cy)=ay*(a*cx-bx*cy)+cy*(ay*bx-ax*a):=by grind
 have a0:0≤ay:=O9;have c0:0≤cy:=O9;have b:0<a:=by
  rcases hb with h|⟨h,c⟩
  ·exact h
  ·have:=Int.mul_nonneg a0 c;rw[h,Int.mul_zero]at f;omega
 have k:ay*(a*cx-bx*cy)≤0:=by
  have:=Int.mul_nonneg a0 (show 0≤ -(a*cx-bx*cy)by omega);rw[Int.mul_neg]at this;omega
 have l:cy*(ay*bx-ax*a)≤0:=by
  have:=Int.mul_nonneg c0 (show 0≤ -(ay*bx-ax*a)by omega);rw[Int.mul_neg]at this;omega
 have m:ay*(a*cx-bx*cy)<0∨cy*(ay*bx-ax*a)<0:=by
  rcases ha with h|⟨h,c⟩
  ·left;have:=Int.mul_pos h (show 0< -(a*cx-bx*cy)by omega);rw[Int.mul_neg]at this;omega
  ·rcases d with g|⟨g,j⟩
   ·right;have:=Int.mul_pos g (show 0< -(ay*bx-ax*a)by omega);rw[Int.mul_neg]at this;omega
   ·have:=Int.mul_nonneg (Int.le_of_lt b) j;rw[g,Int.mul_zero]at i;omega
 by_cases e:ay*cx-ax*cy<0
 ·exact e
 ·have:=Int.mul_nonneg (Int.le_of_lt b) (show 0≤ay*cx-ax*cy by omega);omega
theorem sX{v a b c:Pt}(f:kq v a b)(g:kq v b c):kq v a c:=by
 have key:∀a b:Pt,ae a v b=(a.y-v.y)*(b.x-v.x)-(a.x-v.x)*(b.y-v.y):=fun a b=>by unfold ae;grind
 have neg:∀a b:Pt,ae a v b=(v.y-a.y)*(v.x-b.x)-(v.x-a.x)*(v.y-b.y):=fun a b=>by unfold ae;grind
 rcases f with⟨a1,a2⟩|⟨a1,a2⟩<;>rcases g with⟨b1,b2⟩|⟨b1,b2⟩
 ·exact absurd a2 b1
 ·exact .inl ⟨a1,b1.1 a2⟩
 ·exact .inl ⟨fun h=>b1 (a1.1 h),b2⟩
 ·refine .inr ⟨a1.trans b1,?_⟩;by_cases d:low v a
  ·have hb:=a1.1 d;have e:=b1.1 hb;rw[neg]at a2 b2 ⊢;unfold low at d hb e;exact q9 O9 O9 O9 a2 (by rw[Int.mul_comm (v.x-b.x)]at b2 ⊢;omega)
  ·have hb:¬low v b:=fun h=>d (a1.2 h);have e:¬low v c:=fun h=>hb (b1.2 h);rw[key]at a2 b2 ⊢;unfold low at d hb e;exact q9 O9 O9 O9 a2 (by rw[Int.mul_comm (b.x-v.x)]at b2 ⊢;omega)
theorem zw{l:List Ob}(hm:aZ l=true)(c:¬dA l){v:BA}{L:List BA}(hp:L.Perm (dT (af l) v))(hs:L.Pairwise fun a b=>¬kq (ar l v) (ar l b) (ar l a)):L.Pairwise fun a b=>kq (ar l v) (ar l a) (ar l b):=by
 have f:L.Nodup:=hp.nodup_iff.2 (Bh (mF l) (fun p h=>lN hm h) v);refine List.Pairwise.imp_of_mem (fun {a b} ha hb ⟨g,i⟩=>?_) (hs.and f);have d:=iW.1 (hp.mem_iff.1 ha);have sb:=iW.1 (hp.mem_iff.1 hb);refine Bj ?_ g;have:=(qH hm c).cor _ (bT (bI.2 sb)) _ (bT d) rfl (fun e=>i ((eX c d sb).2.1 e));exact this
theorem IK{l:List Ob}(hm:aZ l=true)(c:¬dA l){nb:BA→List BA}(h:∀v,(nb v).Perm (dT (af l) v))(hs:∀v,(nb v).Pairwise fun a b=>¬kq (ar l v) (ar l b) (ar l a)):kD l nb:=
 ⟨fun v _=>(h v).mem_iff.trans iW,fun v=>zw hm c (h v) (hs v)⟩
instance (v:BA)(L:List BA):Decidable (v∈L):=decidable_of_iff (∃q∈L,q=v) ⟨fun⟨_,h,e⟩=>e▸h,fun h=>⟨v,h,rfl⟩⟩
def C4(B:List Pr)(P:BA→BA)(p:Pr):BA→BA:=fun u=>if u∈endsB B∧P u=P p.1 then P p.2 else P u
structure rE(B:List Pr)(P:BA→BA):Prop where
 bor:∀p∈B,P p.1=P p.2
 conn:∀v,fe B v (P v)
 new:∀v,v∉endsB B→P v=v
theorem rE.start:rE [] id:=⟨fun _ h=>(by cases h),fun v=>fe.refl _ v,fun _ _=>rfl⟩
theorem rE.step{B:List Pr}{P:BA→BA}(h:rE B P)(p:Pr):rE (B++[p]) (C4 (B++[p]) P p):=by
 have m1:p.1∈endsB (B++[p]):=(fE ..).2 (.inr (.inl rfl));have m2:p.2∈endsB (B++[p]):=(fE ..).2 (.inr (.inr rfl));have hm:∀ {v w},fe B v w→fe (B++[p]) v w:=fun h=>h.mono fun s hs=>List.mem_append_left _ hs;refine⟨fun q a=>?_,fun v=>?_,fun v hv=>?_⟩
 ·unfold C4;rcases List.mem_append.1 a with a|a
  ·have b:q.1∈endsB (B++[p]):=(fE ..).2 (.inl (iq.2 ⟨q,a,.inl rfl⟩));have c:q.2∈endsB (B++[p]):=(fE ..).2 (.inl (iq.2 ⟨q,a,.inr rfl⟩));rw[h.bor q a];simp only[b,c,true_and]
  ·rw[List.mem_singleton]at a;subst a;rw[if_pos ⟨m1,rfl⟩];split<;>rfl
 ·unfold C4;split
  ·rename_i hv;have c1:=hm (h.conn v);rw[hv.2]at c1;exact c1.trans ((hm (h.conn p.1)).symm.trans ((fe.one (List.mem_append_right _ (List.mem_singleton.2 rfl))).trans (hm (h.conn p.2))))
  ·exact hm (h.conn v)
 ·unfold C4;rw[if_neg (fun g=>hv g.1)];exact h.new v (fun g=>hv ((fE ..).2 (.inl g)))
theorem rE.lab{l:List Ob}{P:BA→BA}(h:rE (af l) P):tW l P:=by
 refine⟨h.bor,fun s _ t _ e=>?_⟩;have:=h.conn s.1;rw[e]at this;exact this.trans (h.conn t.1).symm
def fc(l:List Ob)(id:BA):List BA:=match cA l id with|some o=>o.refs|none=>[]
theorem uB{l:List Ob}(hu:uniq l){p:Pr}{id:BA}(h:id∈aB l p):∃o∈l,cA l id=some o∧o.id=id∧p∈bU l o:=by
 obtain⟨o,a,c,b⟩:=iH.1 h;exact⟨o,a,by rw[←b];exact jz hu a,b,c⟩
theorem Fv{o:Ob}{i:Nat}(hi:i<br o):(sideAt o i).1∈o.refs∧(sideAt o i).2∈o.refs:=by
 have hlen:i<o.refs.length:=by
  unfold br at hi;split at hi
  ·exact hi
  ·split at hi<;>omega
 have hj:=Nat.mod_lt (i+1) (show 0<o.refs.length by omega);unfold sideAt;simp only[List.getD_eq_getElem?_getD];rw[List.getElem?_eq_getElem hlen,List.getElem?_eq_getElem hj];exact⟨List.getElem_mem _,List.getElem_mem _⟩
theorem ra{p:Pr}{s:BA}:fj (bC p) s↔fj p s:=by
 unfold fj bC ck eu;simp only;cases e:fK p.2 p.1 with
 |true=>
  have:fK p.1 p.2=false:=by
   cases b:fK p.1 p.2 with
   |false=>rfl
   |true=>have:=dg e b;rw[bj]at this;cases this
  simp[this];exact or_comm
 |false=>
  by_cases a:p.1=p.2
  ·rw[a];simp
  ·have:=gL e (fun e=>a e.symm);simp[this]
theorem G5{l:List Ob}(hm:aZ l=true){p:Pr}{id n:BA}(hi:id∈aB l p)(d:n∈fc l id):∃q∈af l,fj q n:=by
 obtain⟨o,m,s,v,b⟩:=uB (bP hm) hi;unfold fc at d;rw[s]at d;simp only at d;have r:=ij (iD hm o m);have hb:bU l o=bw o:=by
  unfold bU at b ⊢;split at b
  ·rename_i g;rw[if_pos g]
  ·cases b
 have t:o.kind=2∨o.kind=3:=by
  unfold bU at b;split at b
  ·rename_i g;exact g.1
  ·cases b
 have key:∀i,i<br o→bC (sideAt o i)∈af l:=fun i hi=>by
  rw[df,fX,List.mem_flatMap];exact⟨o,m,by rw[hb,bw];exact List.mem_map.2 ⟨i,List.mem_range.2 hi,rfl⟩⟩
 obtain⟨i,a,e⟩:=List.mem_iff_getElem.1 d;have f:∀j (hj:j<o.refs.length),(sideAt o j).1=o.refs[j]:=fun j hj=>by
  unfold sideAt;simp only[List.getD_eq_getElem?_getD];rw[List.getElem?_eq_getElem hj];rfl
 by_cases g:i<br o
 ·exact⟨_,key i g,ra.2 (.inl (by rw[f i a,e]))⟩
 ·have c:o.kind=2:=by
   rcases t with k|k
   ·exact k
   ·unfold br at g;rw[if_pos k]at g;exact absurd a g
  have hs:br o=o.refs.length-1:=by
   unfold br;rw[if_neg O9,if_pos c]
  rw[c]at r;have u:2≤o.refs.length:=r;have h:i-1<br o:=O9;refine⟨_,key (i-1) h,ra.2 (.inr ?_)⟩;unfold sideAt;simp only[List.getD_eq_getElem?_getD];rw[show i-1+1=i from by omega,Nat.mod_eq_of_lt a,List.getElem?_eq_getElem a,e];rfl
theorem G6{l:List Ob}(hm:aZ l=true){p:Pr}(hp:p∈af l){s:BA}(hs:fj p s):∃id∈aB l p,s∈fc l id:=by
 obtain⟨id,hid⟩:=List.exists_mem_of_ne_nil _ (lM hp);obtain⟨o,c,b,d,a⟩:=uB (bP hm) hid;refine⟨id,hid,?_⟩;unfold fc;rw[b];simp only;unfold bU at a;split at a
 ·rw[bw,List.mem_map]at a;obtain⟨i,hi,rfl⟩:=a;obtain⟨m1,m2⟩:=Fv (List.mem_range.1 hi);rcases ra.1 hs with rfl|rfl
  ·exact m1
  ·exact m2
 ·cases a
structure me(l:List Ob)(il:List (Pt×Value))(X:List BA):Prop where
 val:∀q v,aJ il q=some v→∃n,v= .string n∧q=ar l n∧∃p∈af l,fj p n
 has:∀n∈X,∃v,aJ il (ar l n)=some v
theorem me.start(l:List Ob):me l [] []:=⟨fun _ _ h=>(by cases h),fun _ h=>(by cases h)⟩
theorem me.put{l:List Ob}{il:List (Pt×Value)}{X:List BA}(h:me l il X){n:BA}(a:∃p∈af l,fj p n):me l (cR il (ar l n) (.string n)) (X++[n]):=by
 refine⟨fun q v hv=>?_,fun x hx=>?_⟩
 ·rw[cC]at hv;by_cases e:q=ar l n
  ·rw[if_pos e]at hv;cases hv;exact⟨n,rfl,e,a⟩
  ·rw[if_neg e]at hv;exact h.val q v hv
 ·rw[cC];by_cases e:ar l x=ar l n
  ·rw[if_pos e];exact⟨_,rfl⟩
  ·rw[if_neg e];rcases List.mem_append.1 hx with hx|hx
   ·exact h.has x hx
   ·rw[List.mem_singleton.1 hx]at e;exact absurd rfl e
def fA(l:List Ob)(G:List (List BA)):List BA:=G.flatMap fun g=>g.flatMap (fc l)
theorem me.whole{l:List Ob}(hm:aZ l=true)(a:¬dA l){il:List (Pt×Value)}(h:me l il (fA l ((af l).map (aB l)))){p:Pr}(hp:p∈af l){s:BA}(hs:fj p s):aJ il (ar l s)=some (.string s):=by
 obtain⟨id,b,c⟩:=G6 hm hp hs;obtain⟨v,hv⟩:=h.has s (List.mem_flatMap.2 ⟨_,List.mem_map.2 ⟨p,hp,rfl⟩,List.mem_flatMap.2 ⟨id,b,c⟩⟩);obtain⟨n,rfl,e,q,d,f⟩:=h.val _ _ hv;rw[←jY a hp d hs f e]at hv;exact hv
