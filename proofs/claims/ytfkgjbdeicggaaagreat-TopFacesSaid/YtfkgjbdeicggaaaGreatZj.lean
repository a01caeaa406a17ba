/-
  Which face is around a node, walked.
-/
import Derived.Test.YtfkgjbdeicggaaaGreatZi
set_option maxHeartbeats 16000000
set_option maxRecDepth 100000
namespace Go.Proofs.YtfkgjbdeicggaaaGreat
open Go.RowKit Go.Proofs.Px Go.Proofs.Pn Go.Proofs.Pm Go.Proofs.Pg Go.Proofs.Pto Go.Proofs.Pf
attribute [local go_sem] Oper.semAt_some
section
variable {κ:Type} {l:List Ob} {P:BA→κ} {cs:List (List BA)} {v:BA} {k a:Nat} {c:List BA}
theorem nV(hc:cs[k]? =some c){d:List BA}:d∈cs.take (k+1)↔d∈cs.take k∨d=c:=by
 rw[List.take_add_one,hc,List.mem_append];simp
theorem lq{i:Nat}{d:List BA}(h:(cs.take k)[i]? =some d):(cs.take (k+1))[i]? =some d:=by
 have hi:=(List.getElem?_eq_some_iff.1 h).1;rw[List.length_take]at hi;rw[List.getElem?_take_of_lt O9]at h;rw[List.getElem?_take_of_lt O9];exact h
theorem Db(l:List Ob)(P:BA→κ)(v:BA):pV l P [] v 0:=⟨fun _ c h=>(by cases h),fun i h=>O9⟩
theorem xu(h:pV l P (cs.take k) v a)(hc:cs[k]? =some c)(hs:P (aS c 0)=P v∨nC (bF l c) (ar l v)=false):pV l P (cs.take (k+1)) v a:=by
 refine⟨fun e d hd=>?_,fun i e=>?_⟩
 ·rcases(nV hc).1 hd with hd|rfl
  ·exact h.none e d hd
  ·exact hs
 ·obtain⟨c1,h1,h2,h3,h4⟩:=h.some i e;refine⟨c1,lq h1,h2,h3,fun d hd g1 g2=>?_⟩;rcases(nV hc).1 hd with hd|rfl
  ·exact h4 d hd g1 g2
  ·rcases hs with g|g
   ·exact absurd g g1
   ·rw[g]at g2;cases g2
theorem FL(h:pV l P (cs.take k) v a)(hc:cs[k]? =some c)(h1:P (aS c 0)≠P v)(h2:nC (bF l c) (ar l v)=true)(h3:a=0∨∃i c1,a=i+1∧(cs.take k)[i]? =some c1∧tw (aw l c)<tw (aw l c1)):pV l P (cs.take (k+1)) v (k+1):=by
 refine⟨fun e=>O9,fun i e=>?_⟩;have hi:i=k:=O9;subst hi;have hlt:=(List.getElem?_eq_some_iff.1 hc).1;refine⟨c,by rw[List.getElem?_take_of_lt O9];exact hc,h1,h2,fun d hd g1 g2=>?_⟩;rcases(nV hc).1 hd with hd|rfl
 ·rcases h3 with e0|⟨i0,c1,e0,e1,e2⟩
  ·rcases h.none e0 d hd with g|g
   ·exact absurd g g1
   ·rw[g]at g2;cases g2
  ·obtain⟨c2,f1,_,_,f4⟩:=h.some i0 e0;rw[e1]at f1;obtain rfl:=Option.some.inj f1;have:=f4 d hd g1 g2;omega
 ·exact Int.le_refl _
theorem FM(h:pV l P (cs.take k) v a)(hc:cs[k]? =some c)(h3:∃i c1,a=i+1∧(cs.take k)[i]? =some c1∧¬tw (aw l c)<tw (aw l c1)):pV l P (cs.take (k+1)) v a:=by
 obtain⟨i0,c0,e0,e1,e2⟩:=h3;refine⟨fun e=>O9,fun i e=>?_⟩;obtain⟨c1,h1,h2,h3,h4⟩:=h.some i e;have hi:i=i0:=O9;subst hi;rw[e1]at h1;obtain rfl:=Option.some.inj h1;refine⟨c0,lq e1,h2,h3,fun d hd g1 g2=>?_⟩;rcases(nV hc).1 hd with hd|rfl
 ·exact h4 d hd g1 g2
 ·omega
end
def pD(w:World):Type:= {wx:World//Below w.heap.size w wx}
def pD.w{w:World}(d:pD w):World:=d.1
theorem pD.go{w:World}(d:pD w){w8:World}(hb:Below d.w.heap.size d.w w8):∃d':pD w,w8=d'.w:=⟨⟨w8,aq d.2 hb⟩,rfl⟩
theorem nW{l:List Ob}(hm:aZ l=true){c:List BA}(hc:∀t∈c,∃z∈an l,z.1=t):∀p∈bF l c,gW p:=fun p hp=>by
 obtain⟨t,ht,rfl⟩:=List.mem_map.1 hp;obtain⟨z,hz,rfl⟩:=hc t ht;have:=ef hm hz;unfold gW;omega
theorem zG(l:List Ob)(hm:aZ l=true)(nb:BA→List BA)(P:BA→BA)(w:World)(x ba bn bp:Nat)(sv:Value)(la ln lp:List (BA×Value))(h:Gd l nb P w x ba bn bp sv la ln lp)(cs:List (List BA))(vo:Value)(ho:DO w vo cs)(hn:cs.length≤1000)
  (hcs:∀c∈cs,c≠[]∧c.length≤1000∧∀t∈c,t.size≤maxLen∧∃z∈an l,z.1=t)(s0:eM)(hs0:s0∈an l)(hk0:s0.1.size≤maxLen):
  Calls Tryz.prog 45 #[.pointer (some ⟨x,0,none⟩),vo,.string s0.1] w fun e w'=>∃k:Nat,e= .returned (.int .i64 k)∧k≤cs.length∧pV l P cs s0.1 k∧Below w.heap.size w w':=by
 obtain⟨A,co,rfl,hco,hA⟩:=ho;obtain⟨n,hnn⟩:∃z,cs.length=z:=⟨_,rfl⟩;have HNN:=aa hnn;rw[hnn]at hn hco ⊢;have HA:=aa hA;have HQ:=aa h;have HCS:=aa hcs;clear hA h hcs hnn;go_enter Tryz.func45,Tryz.ntmps45;go_wp2_with fail;go_loopw [7,8,15] (fun at' sz i wr=>∃(k a:Nat)(z:Int),k≤n∧i= .int .i64 k∧at'= .int .i64 a∧sz= .int .i64 z∧a≤k∧Hid (pV l P (cs.take k) s0.1 a)∧Hid (a=0∨∃i c1,a=i+1∧(cs.take k)[i]? =some c1∧z=tw (aw l c1))∧Hid (Below w.heap.size w wr)) (fun _ _ i _=>n-(intOf i).toNat)
 case atStart=>exact⟨0,0,0,Nat.zero_le _,rfl,rfl,rfl,Nat.zero_le _,Db _ _ _,.inl rfl,Below.refl _ _⟩
 case round=>
  obtain⟨k,a,z,hk,rfl,rfl,rfl,hak,hat,hsz,hb⟩:=hrel;by_cases hlt:k<n
  ·(have hltb:k<cs.length:=by rw[HNN.out];exact hlt);have hck:cs[k]? =some cs[k]:=List.getElem?_eq_getElem hltb;obtain⟨hne,hcl,hct⟩:=HCS.out _ (List.getElem_mem hltb);obtain⟨g,o,rfl,hg,hp⟩:=HA.out.resolve_left (fun e=>by rw[e]at hltb;simp at hltb);obtain⟨iv,hiv,hst⟩:=hp k _ hck;have hcell:=(hb.out.cell (p:=⟨g,_,none⟩) hg).trans hiv;have hst2:=hst.below hb.out;generalize cs[k]=c at*;obtain⟨Ac,cc,rfl,hcc,hAc⟩:=id hst2;obtain⟨gc,oc,rfl,hgc,hpc⟩:=hAc.resolve_left hne
   have HPT:=aa (mN l nb P wr x ba bn bp sv la ln lp (HQ.out.below hb.out) c _ hst2 hcl hct);have hnear:=nW hm (fun t ht=>(hct t ht).2);have hpl:(bF l c).length=c.length:=eJ l c;have h0:0<c.length:=List.length_pos_iff.2 hne;(have hc0:c[0]? =some (aS c 0):=by rw[List.getElem?_eq_getElem h0,iK h0]);have e0:=hpc 0 _ hc0;obtain⟨hk1,z1,hz1,hz2⟩:=hct (aS c 0) (List.mem_of_getElem? hc0);have HST:=aa e0;have HK1:=aa hk1;have HZ1:=aa hz1;have HZ2:=aa hz2;have HGC:=aa hgc;have HPL:=aa hpl;have HCK:=aa hck
   have HNE:=aa hnear;have HH0:=aa h0;have hclk:(c.length:Int)≤1000:=O9;have k0:(0:Int)≤k:=O9;have k1:(k:Int)<n:=O9;have c1:(0:Int)<c.length:=O9;have HLT:=aa hlt;have HAK:=aa hak;have HTA:=aa (fun(g c':Nat)(W:World)(hg:g<W.heap.size)(hp:eI W g (bF l c))=>lT g c' (bF l c) W O9 O9 hnear hg hp);have HIN:=aa (fun(g c':Nat)(W:World)(hg:g<W.heap.size)(hp:eI W g (bF l c))=>qK g c' (bF l c) (ar l s0.1).x (ar l s0.1).y W O9 O9 hnear (by have:=ef hm hs0;unfold gW;simp only;omega) hg hp);rw[←dB,hpl]at HTA
   rw[hpl]at HIN;clear hp hiv hst hst2 hAc hpc hct hnear hpl hc0 e0 hk1 hz1 hz2 hgc hck hne hltb hlt hak;go_wp2_with fail;refine HPT.out.mono ?_;rintro _ w6 ⟨Ap,cp,rfl,hpn⟩;obtain⟨gp,rfl,_,hgp,hpa⟩:=hpn.pts (by rw[HPL.out];exact HH0.out);rw[HPL.out];have HPA:=aa hpa;have HGP:=aa hgp;have HB6:=aa hpn.below;have hb6w:=aq hb.out hpn.below;have HBW:=aa hb6w;clear hgp hpa hpn HPT hcell;have hPQ:=fun d:pD w6=>HQ.out.below (aq HBW.out d.2);obtain⟨q1,hq1,_⟩:=HQ.out.labs z1 HZ1.out
   obtain⟨q2,hq2,_⟩:=HQ.out.labs s0 hs0;have hpx:=HQ.out.pts s0 hs0;have X0:∀d:pD w6,d.w.cell? ⟨x,0,none⟩=some (.map (some ba)):=fun d=>(aY (hPQ d).box).1;have X1:∀d:pD w6,d.w.cell? ⟨x,2,none⟩=some (.map (some bp)):=fun d=>(aY (hPQ d).box).2.2.1;have X2:∀d:pD w6,d.w.cell? ⟨gc,oc,none⟩=some (.string (aS c 0)):=fun d=>by
    have:=(aq HB6.out d.2).cell (p:=⟨gc,oc+0,none⟩) HGC.out;exact this.trans HST.out
   have X3:∀d:pD w6,(Instr.lookup 180 (.map (some bp)) (.string (aS c 0)) false).run Tryz.prog d.w= .ok (.pointer (some ⟨q1,0,none⟩)) d.w:=fun d=>by
    have:=(hPQ d).mpt.look Tryz.underlying180 jM (x:=aS c 0) HK1.out;rw[←HZ2.out,hq1,Option.getD_some,HZ2.out]at this;exact this
   have X4:∀d:pD w6,d.w.cell? ⟨q1,0,none⟩=some (.string (P (aS c 0))):=fun d=>by
    obtain⟨q,h1,h2⟩:=(hPQ d).labs z1 HZ1.out;rw[hq1]at h1;cases h1;rw[HZ2.out]at h2;exact cell_of_row _ _ 0 _ _ _ h2
   have X5:∀d:pD w6,(Instr.lookup 180 (.map (some bp)) (.string s0.1) false).run Tryz.prog d.w= .ok (.pointer (some ⟨q2,0,none⟩)) d.w:=fun d=>by
    have:=(hPQ d).mpt.look Tryz.underlying180 jM (x:=s0.1) hk0;rw[hq2,Option.getD_some]at this;exact this
   have X6:∀d:pD w6,d.w.cell? ⟨q2,0,none⟩=some (.string (P s0.1)):=fun d=>by
    obtain⟨q,h1,h2⟩:=(hPQ d).labs s0 hs0;rw[hq2]at h1;cases h1;exact cell_of_row _ _ 0 _ _ _ h2
   have X7:∀d:pD w6,(Instr.lookup 178 (.map (some ba)) (.string s0.1) false).run Tryz.prog d.w= .ok (.agg #[.int .i64 (ar l s0.1).x,.int .i64 (ar l s0.1).y]) d.w:=fun d=>by
    have:=(hPQ d).mat.look Tryz.underlying178 ji (x:=s0.1) hk0;rw[hpx,Option.getD_some]at this;exact this
   have XI:=aa (fun d:pD w6=>HIN.out gp cp d.w (Nat.lt_of_lt_of_le HGP.out d.2.size) (eI.below HPA.out HGP.out d.2));obtain⟨IB,hIB⟩:∃z,nC (bF l c) (ar l s0.1)=z:=⟨_,rfl⟩;have HIB:=aa hIB;have hpe:(⟨(ar l s0.1).x,(ar l s0.1).y⟩:Pt)=ar l s0.1:=rfl;rw[hpe,hIB]at XI;change Hid (∀d:pD w6,Calls Tryz.prog _ _ d.w _)at XI;have XN:Nonempty (pD w6):=⟨⟨w6,Below.refl _ _⟩⟩;obtain⟨p1,hp1⟩:∃z,P (aS c 0)=z:=⟨_,rfl⟩;obtain⟨p2,hp2⟩:∃z,P s0.1=z:=⟨_,rfl⟩;have HP1:=aa hp1;have HP2:=aa hp2;rw[hp1]at X4;rw[hp2]at X6
   clear hp1 hp2 hPQ hq1 hq2 hpx hIB hpe;generalize (ar l s0.1).x=px at*;generalize (ar l s0.1).y=py at*;generalize hc0e:aS c 0=c0 at*;have HC0E:=aa hc0e;clear hc0e;go_upto_region 6 with(fail);by_cases hep:p1=p2
   ·subst hep;refine au (J:=pD w6) pD.w ⟨_,aA w6⟩ rfl K9 K9 ?_
    repeat (go_big_quiet_step (((with_reducible refine(XI.out _).mono ?_);rintro _ w8 ⟨rfl,b8⟩;exact⟨rfl,pD.go _ b8⟩)))
    refine wpQuiet_nil ?_;rintro w9 ⟨d9,rfl⟩;have HG:=aa (aq HBW.out d9.2);change Hid (Below w.heap.size w d9.w)at HG;have HAT:Hid (pV l P (cs.take (k+1)) s0.1 a):=aa (xu hat.out HCK.out (.inl (by rw[HC0E.out,HP1.out,HP2.out])));have HSZ:Hid (a=0∨∃i c1,a=i+1∧(cs.take (k+1))[i]? =some c1∧z=tw (aw l c1)):=aa (hsz.out.imp id (fun⟨i,c1,a1,a2,a3⟩=>⟨i,c1,a1,lq a2,a3⟩));clear X0 X1 X2 X3 X4 X5 X6 X7 XN XI hat hsz hb hb6w;generalize d9.w=w9 at*;go_wp2_with fail;have hlt:=HLT.out;have hak:=HAK.out
    refine⟨⟨k+1,a,z,O9,by go_num,rfl,rfl,O9,HAT,HSZ,HG⟩,?_⟩;simp[intOf];omega
   ·have hpe:(p1.toList ==p2.toList)=false:=beq_eq_false_iff_ne.2 (fun e=>hep (toList_inj.1 e));cases IB with
    |false=>
     refine au (J:=pD w6) pD.w ⟨_,aA w6⟩ rfl K9 K9 ?_
     repeat (go_big_quiet_step (((with_reducible refine(XI.out _).mono ?_);rintro _ w8 ⟨rfl,b8⟩;exact⟨rfl,pD.go _ b8⟩)))
     refine wpQuiet_nil ?_;rintro w9 ⟨d9,rfl⟩;have HG:=aa (aq HBW.out d9.2);change Hid (Below w.heap.size w d9.w)at HG;have HAT:Hid (pV l P (cs.take (k+1)) s0.1 a):=aa (xu hat.out HCK.out (.inr HIB.out));have HSZ:Hid (a=0∨∃i c1,a=i+1∧(cs.take (k+1))[i]? =some c1∧z=tw (aw l c1)):=aa (hsz.out.imp id (fun⟨i,c1,a1,a2,a3⟩=>⟨i,c1,a1,lq a2,a3⟩));clear X0 X1 X2 X3 X4 X5 X6 X7 XN XI hat hsz hb hb6w;generalize d9.w=w9 at*;go_wp2_with fail;have hlt:=HLT.out;have hak:=HAK.out
     refine⟨⟨k+1,a,z,O9,by go_num,rfl,rfl,O9,HAT,HSZ,HG⟩,?_⟩;simp[intOf];omega
    |true=>
     refine au (J:=pD w6) pD.w ⟨_,aA w6⟩ rfl K9 K9 ?_
     repeat (go_big_quiet_step (((with_reducible refine(XI.out _).mono ?_);rintro _ w8 ⟨rfl,b8⟩;exact⟨rfl,pD.go _ b8⟩)))
     refine wpQuiet_nil ?_;rintro w9 ⟨d9,rfl⟩;have HG:=aa (aq HBW.out d9.2);change Hid (Below w.heap.size w d9.w)at HG;have HTW:=aa (HTA.out gp cp d9.w (Nat.lt_of_lt_of_le HGP.out d9.2.size) (eI.below HPA.out HGP.out d9.2));change Hid (Calls Tryz.prog _ _ d9.w _)at HTW;(have hne:P (aS c 0)≠P s0.1:=by rw[HC0E.out,HP1.out,HP2.out];exact hep);have HMO:=aa (fun h3=>FL hat.out HCK.out hne HIB.out h3);have HLS:=aa (fun h3=>FM hat.out HCK.out h3);have HSZ0:=hsz
     have HCK2:Hid ((cs.take (k+1))[k]? =some c):=aa (by rw[List.getElem?_take_of_lt O9];exact HCK.out);obtain⟨n1,hn1⟩:∃z,tw (aw l c)=z:=⟨_,rfl⟩;have HN1:=aa hn1;rw[hn1]at HTW;clear X0 X1 X2 X3 X4 X5 X6 X7 XN XI hat hsz hb hb6w hne hn1;generalize d9.w=w9 at*;go_wp2_with fail;refine HTW.out.mono ?_;rintro _ wt ⟨rfl,hbt⟩;have HG2:=aa (aq HG.out hbt);clear hbt HTW;by_cases ha0:a=0
     ·subst ha0;have HAT:=aa (HMO.out (.inl rfl));clear HMO HLS HSZ0;go_wp2_with fail;have hlt:=HLT.out;refine⟨⟨k+1,k+1,n1,O9,by go_num,by go_num,rfl,Nat.le_refl _,HAT,.inr ⟨k,c,rfl,HCK2.out,HN1.out.symm⟩,HG2⟩,?_⟩;simp[intOf];omega
     ·(have ha1:¬(a:Int)=0:=by omega);have ha2:((a:Int) ==0)=false:=beq_eq_false_iff_ne.2 ha1;by_cases hz:n1<z
      ·have HAT:=aa (HMO.out (.inr ((HSZ0.out.resolve_left ha0).imp fun i h=>h.imp fun c1 h=>⟨h.1,h.2.1,by rw[←h.2.2,HN1.out];exact hz⟩)));clear HMO HLS HSZ0;go_wp2_with fail;have hlt:=HLT.out;refine⟨⟨k+1,k+1,n1,O9,by go_num,by go_num,rfl,Nat.le_refl _,HAT,.inr ⟨k,c,rfl,HCK2.out,HN1.out.symm⟩,HG2⟩,?_⟩;simp[intOf];omega
      ·have HAT:=aa (HLS.out ((HSZ0.out.resolve_left ha0).imp fun i h=>h.imp fun c1 h=>⟨h.1,h.2.1,by rw[←h.2.2,HN1.out];omega⟩));have HSZ:Hid (a=0∨∃i c1,a=i+1∧(cs.take (k+1))[i]? =some c1∧z=tw (aw l c1)):=aa (HSZ0.out.imp id (fun⟨i,c1,a1,a2,a3⟩=>⟨i,c1,a1,lq a2,a3⟩));clear HMO HLS HSZ0;go_wp2_with fail;have hlt:=HLT.out;have hak:=HAK.out;refine⟨⟨k+1,a,z,O9,by go_num,rfl,rfl,O9,HAT,HSZ,HG2⟩,?_⟩;simp[intOf];omega
  ·(obtain rfl:k=n:=by omega);have k1:¬(k:Int)<(k:Nat):=O9;have HAT:Hid (pV l P cs s0.1 a):=aa (by
    have:=hat.out;rw[List.take_of_length_le (by rw[HNN.out];exact Nat.le_refl _)]at this;exact this)
   go_wp2_with fail;go_ret;exact⟨a,rfl,hak,HAT.out,hb.out⟩
theorem Dc{r:List BA}{p:eM→Bool}{k:Nat}(hk:k<r.length)(h1:p (aS r k,aS r (k+1))=true)(h2:∀i,i<k→p (aS r i,aS r (i+1))=false):(bE r).find? p=some (aS r k,aS r (k+1)):=by
 have key:∀m,(∀i,i<m→p (aS r i,aS r (i+1))=false)→((List.range m).map fun i=>(aS r i,aS r (i+1))).find? p=none:=fun m hm=>by
  rw[List.find?_eq_none];intro s hs;obtain⟨i,hi,rfl⟩:=List.mem_map.1 hs;rw[hm i (List.mem_range.1 hi)];simp
 unfold bE;have e:List.range r.length=List.range k++(List.range (r.length-k)).map (k+ ·):=by
  rw[←List.range_add];congr 1;omega
 rw[e,List.map_append,List.find?_append,key k h2,Option.none_or];obtain⟨m,hm⟩:∃m,r.length-k=m+1:=⟨r.length-k-1,O9⟩;rw[hm,List.range_succ_eq_map];simp[h1]
theorem Dd{r:List BA}{p:eM→Bool}(h2:∀i,i<r.length→p (aS r i,aS r (i+1))=false):(bE r).find? p=none:=by
 rw[List.find?_eq_none];intro s hs;obtain⟨i,hi,rfl⟩:=List.mem_map.1 hs;rw[h2 i (List.mem_range.1 hi)];simp
theorem tf{wd W:World}{t:TypeId}{gA gB:Nat}{a b u1 u2 v1 v2:Value}(hA:W.heap[gA]? =some (.cells #[a,b] t (0,0)))(hB:W.heap[gB]? =some (.cells #[a,b] t (0,0)))(hne:gA≠gB)(lA:wd.heap.size≤gA)(lB:wd.heap.size≤gB)(hw:Below wd.heap.size wd W):
  ((W.setCell ⟨gA,0,none⟩ u1).setCell ⟨gA,1,none⟩ u2).heap[gB]? =some (.cells #[a,b] t (0,0))∧((((W.setCell ⟨gA,0,none⟩ u1).setCell ⟨gA,1,none⟩ u2).setCell ⟨gB,0,none⟩ v1).setCell ⟨gB,1,none⟩ v2).heap[gA]? =some (.cells #[u1,u2] t (0,0))∧((((W.setCell ⟨gA,0,none⟩ u1).setCell ⟨gA,1,none⟩ u2).setCell ⟨gB,0,none⟩ v1).setCell ⟨gB,1,none⟩ v2).heap[gB]? =some (.cells #[v1,v2] t (0,0))∧Below wd.heap.size wd ((((W.setCell ⟨gA,0,none⟩ u1).setCell ⟨gA,1,none⟩ u2).setCell ⟨gB,0,none⟩ v1).setCell ⟨gB,1,none⟩ v2):=by
 have hB1:((W.setCell ⟨gA,0,none⟩ u1).setCell ⟨gA,1,none⟩ u2).heap[gB]? =some (.cells #[a,b] t (0,0)):=by
  rw[Below.heap_setCell _ _ _ _ (fun e=>hne e.symm),Below.heap_setCell _ _ _ _ (fun e=>hne e.symm)];exact hB
 refine⟨hB1,?_,p5 hB1,(((hw.setCell lA _).setCell lA _).setCell lB _).setCell lB _⟩;rw[Below.heap_setCell _ _ _ _ hne,Below.heap_setCell _ _ _ _ hne];exact p5 hA
def pL(R:List Pt)(m:Nat):List Pt:=(R.take m).map dblP++R.drop m
theorem FN(R:List Pt)(m:Nat):(pL R m).length=R.length:=by
 unfold pL;rw[List.length_append,List.length_map,List.length_take,List.length_drop];omega
theorem Ha{R:List Pt}{m:Nat}{p:Pt}(h:R[m]? =some p):(pL R m)[m]? =some p∧pL R (m+1)=(pL R m).set m (dblP p):=by
 have hm:=(List.getElem?_eq_some_iff.1 h).1;unfold pL;refine⟨?_,?_⟩
 ·rw[List.getElem?_append_right (by rw[List.length_map,List.length_take];omega),List.length_map,List.length_take,List.getElem?_drop,Nat.min_eq_left O9];rw[Nat.sub_self,Nat.add_zero];exact h
 ·have hd:R.drop m=p::R.drop (m+1):=by
   rw[List.drop_eq_getElem_cons hm];rw[List.getElem?_eq_getElem hm]at h;rw[Option.some.inj h]
  rw[List.take_add_one,h,hd,List.set_append_right _ _ (by rw[List.length_map,List.length_take];omega),List.length_map,List.length_take,Nat.min_eq_left O9,Nat.sub_self,List.set_cons_zero,List.map_append];simp
theorem pE:∀(L:List Pt)(m:Nat)(p:Pt),m<L.length→((cN L).set (m*2) (.int .i64 p.x)).set (m*2+1) (.int .i64 p.y)=cN (L.set m p)
 | [],_,_,h=>by simp at h
 |q::L,0,p,_=>by simp[cN]
 |q::L,m+1,p,h=>by
  have ih:=pE L m p (by simpa using h);simp only[cN,List.set_cons_succ];rw[List.set_append_right _ _ (by simp;omega),List.set_append_right _ _ (by simp;omega)];simp only[List.length_cons,List.length_nil];rw[show(m+1)*2-(0+1+1)=m*2 from by omega,show(m+1)*2+1-(0+1+1)=m*2+1 from by omega,ih]
theorem zH(l:List Ob)(hm:aZ l=true)(nb:BA→List BA)(P:BA→BA)(w:World)(x ba bn bp:Nat)(sv:Value)(la ln lp:List (BA×Value))(h:Gd l nb P w x ba bn bp sv la ln lp)(r:List BA)(rv:Value)(hr:ff w rv r)(hne:r≠[])(hl:r.length≤1000)
  (hct:∀t∈r,t.size≤maxLen∧∃z∈an l,z.1=t)(s1 s2:BA)(hs:(s1,s2)∈an l)(hk:s1.size≤maxLen∧s2.size≤maxLen):
  Calls Tryz.prog 44 #[.pointer (some ⟨x,0,none⟩),rv,.agg #[.string s1,.string s2]] w fun e w'=>e= .returned (.bool (fk l r (s1,s2)))∧Below w.heap.size w w':=by
 have hmx:Tryz.prog.follows .mixedOrders=true:=K9;obtain⟨w1,hw1⟩:∃z,w.alloc (.cells #[.string s1,.string s2] 114)=z:=⟨_,rfl⟩;obtain⟨b0,hb0⟩:∃z,w.heap.size=z:=⟨_,rfl⟩;have hb1:Below w.heap.size w w1:=by rw[←hw1];exact(Below.refl _ _).alloc (Nat.le_refl _) _
 have hx1:w1.heap[b0]? =some (.cells #[.string s1,.string s2] 114 (0,0)):=by rw[←hw1,←hb0];exact heap_alloc_new _ _
 obtain⟨A,c,rfl,hc,hA⟩:=id hr;obtain⟨g,o,rfl,hg,hp⟩:=hA.resolve_left hne;have HPT:=aa (mN l nb P w1 x ba bn bp sv la ln lp (h.below hb1) r _ (hr.below hb1) hl hct);have hnear:=nW hm (fun t ht=>(hct t ht).2);have hpl:(bF l r).length=r.length:=eJ l r;have h0:0<r.length:=List.length_pos_iff.2 hne;have HTA:=aa (fun(g c':Nat)(W:World)(hg:g<W.heap.size)(hp:eI W g (bF l r))=>lT g c' (bF l r) W O9 O9 hnear hg hp);rw[←dB,hpl]at HTA;have HPL:=aa hpl;have HP:=aa hp;have HB1:=aa hb1;have HX1:=aa hx1;have HQ:=aa h
 have HNR:=aa hnear;have HW1:=aa hw1;have HB0:=aa hb0;obtain⟨n,hnn⟩:∃z,r.length=z:=⟨_,rfl⟩;have HNN:=aa hnn;rw[hnn]at HPT HTA h0 hl hc ⊢;have HH0:=aa h0;clear hpl hp hb1 hx1 h hnear hw1 hb0 hnn hA hr hne;go_enter Tryz.func44,Tryz.ntmps44;go_wp2_with fail;rw[HW1.out,HB0.out];refine HPT.out.mono ?_;rintro _ w2 ⟨Ap,cp,rfl,hpn⟩;obtain⟨gp,rfl,hgp0,hgp,hpa⟩:=hpn.pts (by rw[HPL.out,HNN.out];exact HH0.out);rw[HPL.out,HNN.out];have HPA:=aa hpa;have HGP:=aa (And.intro hgp0 hgp);have HOWN:=aa hpn.own
 have HB2:=aa hpn.below;have HTC:=aa (HTA.out gp cp w2 hgp hpa);clear hgp hgp0 hpa hpn HPT;go_wp2_with fail;refine HTC.out.mono ?_;rintro _ w3 ⟨rfl,hb3⟩;have HB3:=aa hb3;clear hb3 HTC HTA;obtain⟨TW,hTW⟩:∃z,tw (aw l r)=z:=⟨_,rfl⟩;have HTW:=aa hTW;rw[hTW];clear hTW;go_wp2_with fail;go_loopw [24] (fun i wr=>∃k:Nat,k≤n∧i= .int .i64 k∧Hid (∀i,i<k→(aS r i,aS r (i+1))≠(s1,s2)∧(aS r i,aS r (i+1))≠swp (s1,s2))∧Hid (Below w3.heap.size w3 wr)) (fun i _=>n-(intOf i).toNat)
 case atStart=>exact⟨0,Nat.zero_le _,rfl,aa (fun i h=>absurd h (Nat.not_lt_zero i)),Below.refl _ _⟩
 case round=>
  obtain⟨k,hk2,rfl,hno,hb⟩:=hrel;have hbw:Below w.heap.size w wr:=aq (aq (aq HB1.out HB2.out) HB3.out) hb.out;by_cases hlt:k<n
  ·(have hltb:k<r.length:=by rw[HNN.out];exact hlt);have hm2:=Nat.mod_lt (k+1) h0;(have hm2b:(k+1)%r.length<r.length:=by rw[HNN.out];exact hm2);have e1:=(hbw.cell (p:=⟨g,o+k,none⟩) hg).trans (HP.out k _ (by rw[List.getElem?_eq_getElem hltb,←iK hltb]));have e2:=(hbw.cell (p:=⟨g,o+(k+1)%n,none⟩) hg).trans (HP.out ((k+1)%n) (aS r (k+1)) (by
    rw[←HNN.out,List.getElem?_eq_getElem hm2b,←iK hm2b,tV]))
   have hrem:((k:Int)+1).tmod n=(((k+1)%n:Nat):Int):=by
    rw[Int.tmod_eq_emod_of_nonneg O9];push_cast;rfl
   have HRG:Hid (∀p:eM→Bool,(∀i,i<k→p (aS r i,aS r (i+1))=false)→p (aS r k,aS r (k+1))=true→(bE r).find? p=some (aS r k,aS r (k+1))):=aa (fun p a1 a2=>Dc hltb a2 a1);have hx:=ai (aq (aq HB2.out HB3.out) hb.out) HX1.out;generalize hea:aS r k=a at*;generalize heb:aS r (k+1)=b at*;have HEA:=aa hea;have HEB:=aa heb;obtain⟨⟨y0,y1⟩,_⟩:=aW (dU (.cells #[.string a,.string b] 114) hx);have hnew:=heap_alloc_new wr (.cells #[.string a,.string b] 114);obtain⟨⟨z0,z1⟩,_⟩:=aW hnew;have k0:(0:Int)≤k:=O9
   have k1:(k:Int)<n:=O9;have hn1:(n:Int)≤1000:=O9;generalize (k+1)%n=m at*;have m1:(m:Int)<n:=O9;have HLT:=aa hlt;clear hltb hm2b hm2 hlt hea heb hnew;by_cases c1:a=s1
   ·by_cases c2:b=s2
    ·subst c1 c2;have hres:fk l r (a,b)=decide (0<TW):=by
      unfold fk;rw[HRG.out (fun t=>decide (t=(a,b))||decide (t=swp (a,b))) (fun i hi=>by
       obtain⟨n1,n2⟩:=hno.out i hi;simp only[decide_eq_false n1,decide_eq_false n2,Bool.or_self]) (by simp)]
      simp only[if_pos];rw[HTW.out]
     have HRES:=aa hres;have HBN:=aa (aq hbw ((Below.refl _ wr).alloc (Nat.le_refl _) (.cells #[.string a,.string b] 114)));clear hno hb hbw hres;go_wp2_with fail;go_ret;exact⟨by rw[HRES.out];rfl,HBN.out⟩
    ·have f1:(b.toList ==s2.toList)=false:=beq_eq_false_iff_ne.2 (fun e=>c2 (toList_inj.1 e));have hss:=nA hm hs;have f2:(a.toList ==s2.toList)=false:=beq_eq_false_iff_ne.2 (fun e=>hss (by rw[←c1];exact toList_inj.1 e));have hne1:(a,b)≠(s1,s2):=fun e=>c2 (Prod.ext_iff.1 e).2;have hne2:(a,b)≠swp (s1,s2):=fun e=>hss (by rw[←c1];exact(Prod.ext_iff.1 e).1);have c1':=c1.symm;clear c1;subst c1';clear c2 hss;have HNO:Hid (∀i,i<k+1→(aS r i,aS r (i+1))≠(s1,s2)∧(aS r i,aS r (i+1))≠swp (s1,s2)):=aa (fun i hi=>by
      by_cases e:i=k
      ·rw[e,HEA.out,HEB.out];exact⟨hne1,hne2⟩
      ·exact hno.out i O9)
     have HBN:=aa hb.out;clear hno hb hbw hne1 hne2;go_wp2_with fail;refine(nS s1 s2 _).mono ?_;rintro _ w7 ⟨rfl,b7⟩;have HB7:Hid (Below w3.heap.size w3 w7):=aa (aq (HBN.out.alloc HBN.out.size _ |> fun h=>h) b7);clear b7;go_wp2_with fail;have hlt:=HLT.out;refine⟨⟨k+1,O9,by go_num,HNO,HB7⟩,?_⟩;simp[intOf];omega
   ·have f1:(a.toList ==s1.toList)=false:=beq_eq_false_iff_ne.2 (fun e=>c1 (toList_inj.1 e));have hne1:(a,b)≠(s1,s2):=fun e=>c1 (Prod.ext_iff.1 e).1;by_cases c3:a=s2
    ·by_cases c4:b=s1
     ·have hres:fk l r (s1,s2)= !decide (0<TW):=by
       unfold fk;rw[HRG.out (fun t=>decide (t=(s1,s2))||decide (t=swp (s1,s2))) (fun i hi=>by
        obtain⟨n1,n2⟩:=hno.out i hi;simp only[decide_eq_false n1,decide_eq_false n2,Bool.or_self]) (by rw[c3,c4];simp[swp])]
       simp only[if_neg hne1];rw[HTW.out]
      have HRES:=aa hres;have HBN:=aa hb.out;have HBA:=aa (aq (aq HB1.out HB2.out) HB3.out);subst c3 c4;clear hno hb hbw hres hne1;go_wp2_with fail;refine(nS b a _).mono ?_;rintro _ w7 ⟨rfl,b7⟩;have HB7:Hid (Below w3.heap.size w3 w7):=aa (aq (HBN.out.alloc HBN.out.size _) b7);clear b7;go_wp2_with fail;go_ret;exact⟨by rw[HRES.out];rfl,aq HBA.out HB7.out⟩
     ·have f2:(b.toList ==s1.toList)=false:=beq_eq_false_iff_ne.2 (fun e=>c4 (toList_inj.1 e));have hne2:(a,b)≠swp (s1,s2):=fun e=>c4 (Prod.ext_iff.1 e).2;have c3':=c3.symm;clear c3;subst c3';clear c4 c1;have HNO:Hid (∀i,i<k+1→(aS r i,aS r (i+1))≠(s1,s2)∧(aS r i,aS r (i+1))≠swp (s1,s2)):=aa (fun i hi=>by
       by_cases e:i=k
       ·rw[e,HEA.out,HEB.out];exact⟨hne1,hne2⟩
       ·exact hno.out i O9)
      have HBN:=aa hb.out;clear hno hb hbw hne1 hne2;go_wp2_with fail;refine(nS s1 s2 _).mono ?_;rintro _ w7 ⟨rfl,b7⟩;have HB7:Hid (Below w3.heap.size w3 w7):=aa (aq (HBN.out.alloc HBN.out.size _ |> fun h=>h) b7);clear b7;go_wp2_with fail;have hlt:=HLT.out;refine⟨⟨k+1,O9,by go_num,HNO,HB7⟩,?_⟩;simp[intOf];omega
    ·have f2:(a.toList ==s2.toList)=false:=beq_eq_false_iff_ne.2 (fun e=>c3 (toList_inj.1 e));have hne2:(a,b)≠swp (s1,s2):=fun e=>c3 (Prod.ext_iff.1 e).1;clear c3 c1;have HNO:Hid (∀i,i<k+1→(aS r i,aS r (i+1))≠(s1,s2)∧(aS r i,aS r (i+1))≠swp (s1,s2)):=aa (fun i hi=>by
      by_cases e:i=k
      ·rw[e,HEA.out,HEB.out];exact⟨hne1,hne2⟩
      ·exact hno.out i O9)
     have HBN:=aa hb.out;clear hno hb hbw hne1 hne2;go_wp2_with fail;refine(nS s1 s2 _).mono ?_;rintro _ w7 ⟨rfl,b7⟩;have HB7:Hid (Below w3.heap.size w3 w7):=aa (aq (HBN.out.alloc HBN.out.size _ |> fun h=>h) b7);clear b7;go_wp2_with fail;have hlt:=HLT.out;refine⟨⟨k+1,O9,by go_num,HNO,HB7⟩,?_⟩;simp[intOf];omega
  ·(obtain rfl:k=n:=by omega);have k1:¬(k:Int)<(k:Nat):=O9;have HRES:Hid (fk l r (s1,s2)=nC ((bF l r).map dblP) ⟨(ar l s1).x+(ar l s2).x,(ar l s1).y+(ar l s2).y⟩):=aa (by
    unfold fk;rw[Dd (fun i hi=>by
     obtain⟨n1,n2⟩:=hno.out i (by rw[←HNN.out];exact hi);simp only[decide_eq_false n1,decide_eq_false n2,Bool.or_self])])
   have HBW:=aa hbw;have ho3:=ao (ao HOWN.out HB3.out) hb.out;rw[HPL.out,HNN.out]at ho3;obtain⟨R,hR⟩:∃z,bF l r=z:=⟨_,rfl⟩;have HRE:=aa hR;(have hRl:R.length=k:=by rw[←hR,HPL.out,HNN.out]);have HRL:=aa hRl;rw[hR]at ho3;have HO3:Hid (wr.ownsRow w1.heap.size 44 2 (.slice (some ⟨gp,0,none⟩) k cp) k (cN (pL R 0))):=aa (by simpa[pL]using ho3);have HNR2:Hid (∀p∈R,0≤p.x∧p.x<1048576∧0≤p.y∧p.y<1048576):=aa (fun p hp=>by
    rw[←hR]at hp;obtain⟨t,ht,rfl⟩:=List.mem_map.1 hp;obtain⟨_,z,hz,rfl⟩:=hct t ht;exact ef hm hz)
   have HBW1:Hid (Below w1.heap.size w1 wr):=aa (aq (aq HB2.out HB3.out) hb.out);clear hno hb hbw hlt ho3 hR hRl HB2 HB3 HOWN HPA HGP;go_wp2_with fail;go_loopw [53] (fun i wr=>∃m:Nat,m≤k∧i= .int .i64 m∧Hid (wr.ownsRow w1.heap.size 44 2 (.slice (some ⟨gp,0,none⟩) k cp) k (cN (pL R m)))∧Hid (Below w1.heap.size w1 wr)) (fun i _=>k-(intOf i).toNat)
   case atStart=>exact⟨0,Nat.zero_le _,rfl,HO3,HBW1⟩
   case round=>
    clear HO3 HBW1;obtain⟨m,hmk,rfl,ho,hb⟩:=hrel;by_cases hlt:m<k
    ·(have hltb:m<R.length:=by rw[HRL.out];exact hlt);have hRm:R[m]? =some R[m]:=List.getElem?_eq_getElem hltb;obtain⟨g1,g2⟩:=Ha hRm;obtain⟨d1,d2⟩:=pw _ m _ g1;have hgr:=HNR2.out _ (List.getElem_mem hltb);have hset:=pE (pL R m) m (dblP R[m]) (by rw[FN];exact hltb);rw[←g2]at hset;generalize R[m]=p at*;obtain⟨px,py⟩:=p;simp only[dblP]at hgr hset d1 d2;obtain⟨wo,hwo⟩:∃z,wr.alloc (.cells #[.int .i64 px,.int .i64 py] 44)=z:=⟨_,rfl⟩
     (have hba:Below wr.heap.size wr wo:=by rw[←hwo];exact(Below.refl _ _).alloc (Nat.le_refl _) _);have y0:=bg ho.out _ _ d1;have y1:=bg ho.out _ _ d2;have ho2:=ao ho.out hba;have z0:=bg ho2 _ _ d1;have z1:=bg ho2 _ _ d2;have f0:=ez ho2 (m*2);have f1:=ez ho2 (m*2+1);(have hnw:wo.heap[wr.heap.size]? =some (.cells #[.int .i64 px,.int .i64 py] 44 (0,0)):=by rw[←hwo];exact heap_alloc_new _ _);obtain⟨⟨x0,x1⟩,_⟩:=aW hnw;have HP9:=dL (dL ho2 (m*2) (.int .i64 (2*px))) (m*2+1) (.int .i64 (2*py))
     rw[hset]at HP9;have HO9:=aa HP9;have hbb:w1.heap.size≤gp:=(aj ho2 (b:=gp) rfl).1;have HB9:Hid (Below w1.heap.size w1 ((wo.setCell ⟨gp,m*2,none⟩ (.int .i64 (2*px))).setCell ⟨gp,m*2+1,none⟩ (.int .i64 (2*py)))):=aa (((hb.out.trans (hba.mono hb.out.size)).setCell hbb _).setCell hbb _);have k0:(0:Int)≤m:=O9;have k1:(m:Int)<k:=O9;have hn1:(k:Int)≤1000:=O9;have HLT:=aa hlt;have HWO:=aa hwo;have q1:IntKind.i64.wrap (2*px)=2*px:=IntWalk.i64_in _ O9
     have q2:IntKind.i64.wrap (2*py)=2*py:=IntWalk.i64_in _ O9;clear hltb hRm g1 g2 d1 d2 hgr hset hba ho2 hnw HP9 hbb ho hb hlt;go_wp2_with fail;have hlt:=HLT.out;refine⟨⟨m+1,O9,by go_num,HO9,HB9⟩,?_⟩;simp[intOf];omega
    ·(obtain rfl:m=k:=by omega);have m1:¬(m:Int)<(m:Nat):=O9;have hdk:pL R m=R.map dblP:=by
      unfold pL;rw[List.take_of_length_le (by rw[HRL.out];exact Nat.le_refl _),List.drop_eq_nil_of_le (by rw[HRL.out];exact Nat.le_refl _),List.append_nil]
     (have hdl:(R.map dblP).length=m:=by rw[List.length_map,HRL.out]);have hpn:xV w1 (R.map dblP) (some ⟨gp,0,none⟩) cp wr:=⟨by rw[hdl,←hdk];exact ho.out,hb.out⟩;obtain⟨gq,hgq,_,hgl,hpa⟩:=hpn.pts (by rw[hdl];exact h0);cases hgq;have g1:=ef hm hs;have g2:=ef hm (bI.2 hs);have p1:=HQ.out.pts _ hs;have p2:=HQ.out.pts _ (bI.2 hs);simp only[swp]at g1 g2 p1 p2;obtain⟨RES,hRES⟩:∃z,fk l r (s1,s2)=z:=⟨_,rfl⟩;have hr2:=HRES.out;rw[hRES,HRE.out]at hr2;obtain⟨wd,hwd⟩:∃z,wr.drew=z:=⟨_,rfl⟩
     (have hbd:Below wr.heap.size wr wd:=by rw[←hwd];exact aA _);have HBD:Hid (Below w.heap.size w wd):=aa (aq (aq HB1.out hb.out) hbd);have hnr:∀p∈R.map dblP,gW p:=fun p hp=>by
      obtain⟨t,ht,rfl⟩:=List.mem_map.1 hp;have:=HNR2.out t ht;unfold gW dblP;simp only;omega
     have HIN:=aa (fun(W:World)(hW:Below wd.heap.size wd W)=>qK gp cp (R.map dblP) ((ar l s1).x+(ar l s2).x) ((ar l s1).y+(ar l s2).y) W O9 O9 hnr (by unfold gW;simp only;omega) (Nat.lt_of_lt_of_le hgl (Nat.le_trans hbd.size hW.size)) (eI.below (eI.below hpa hgl hbd) (Nat.lt_of_lt_of_le hgl hbd.size) hW));rw[hdl,←hr2]at HIN;have hbx:=ai (aq hb.out hbd) HX1.out;have hqd:=HQ.out.below HBD.out
     have HMC:Hid (∀W:World,Below wd.heap.size wd W→W.cell? ⟨x,0,none⟩=some (.map (some ba))∧W.cell? ⟨b0,0,none⟩=some (.string s1)∧W.cell? ⟨b0,1,none⟩=some (.string s2)∧(Instr.lookup 178 (.map (some ba)) (.string s1) false).run Tryz.prog W= .ok (.agg #[.int .i64 (ar l s1).x,.int .i64 (ar l s1).y]) W∧(Instr.lookup 178 (.map (some ba)) (.string s2) false).run Tryz.prog W= .ok (.agg #[.int .i64 (ar l s2).x,.int .i64 (ar l s2).y]) W):=aa (fun W hW=>by
      have hq:=hqd.below hW;obtain⟨⟨c1,c2⟩,_⟩:=aW (ai hW hbx);have l1:=hq.mat.look Tryz.underlying178 ji (x:=s1) hk.1;have l2:=hq.mat.look Tryz.underlying178 ji (x:=s2) hk.2;rw[p1,Option.getD_some]at l1;rw[p2,Option.getD_some]at l2;exact⟨(aY hq.box).1,c1,c2,l1,l2⟩)
     have HRS:Hid (fk l r (s1,s2)=RES):=aa hRES;(have hs0:(wd.alloc (.cells #[.int .i64 0,.int .i64 0] 44)).heap.size=wd.heap.size+1:=by simp);have a1:((wd.alloc (.cells #[.int .i64 0,.int .i64 0] 44)).alloc (.cells #[.int .i64 0,.int .i64 0] 44)).heap[wd.heap.size]? =some (.cells #[.int .i64 0,.int .i64 0] 44 (0,0)):=dU _ (heap_alloc_new _ _)
     have a2:((wd.alloc (.cells #[.int .i64 0,.int .i64 0] 44)).alloc (.cells #[.int .i64 0,.int .i64 0] 44)).heap[wd.heap.size+1]? =some (.cells #[.int .i64 0,.int .i64 0] 44 (0,0)):=by
      have:=heap_alloc_new (wd.alloc (.cells #[.int .i64 0,.int .i64 0] 44)) (.cells #[.int .i64 0,.int .i64 0] 44);rw[hs0]at this;exact this
     have hba:Below wd.heap.size wd ((wd.alloc (.cells #[.int .i64 0,.int .i64 0] 44)).alloc (.cells #[.int .i64 0,.int .i64 0] 44)):=((Below.refl _ _).alloc (Nat.le_refl _) _).alloc (by simp) _;generalize (ar l s1).x=px at*;generalize (ar l s1).y=py at*;generalize (ar l s2).x=qx at*;generalize (ar l s2).y=qy at*;have tb1:=tf (u1:=.int .i64 px) (u2:=.int .i64 py) (v1:=.int .i64 qx) (v2:=.int .i64 qy) a1 a2 O9 (Nat.le_refl _) (Nat.le_succ _) hba
     have tb2:=tf (u1:=.int .i64 px) (u2:=.int .i64 py) (v1:=.int .i64 qx) (v2:=.int .i64 qy) a2 a1 O9 (Nat.le_succ _) (Nat.le_refl _) hba;obtain⟨⟨c1,c2⟩,c3,c4⟩:=aW a1;obtain⟨⟨d1,d2⟩,d3,d4⟩:=aW a2;obtain⟨⟨e1,e2⟩,e3,e4⟩:=aW tb1.1;obtain⟨⟨f1,f2⟩,f3,f4⟩:=aW tb2.1;have w1a:IntKind.i64.wrap (px+qx)=px+qx:=IntWalk.i64_in _ O9;have w2a:IntKind.i64.wrap (py+qy)=py+qy:=IntWalk.i64_in _ O9;clear hdk hdl hpn hgl hpa g1 g2 p1 p2 hRES hr2 hbd hnr hbx hqd a1 a2 hba tb1 tb2 ho hb hlt hs0
     go_upto_region 18 with(fail);refine aU (fun W=>Below wd.heap.size wd W) 17 hmx ?_;rw[hwd];clear hwd;simp only[List.size_toArray,List.length_cons,List.length_nil,Nat.reduceAdd];refine wk 0 (.pointer (some ⟨x,0,none⟩)) rfl (fun w hm=>rfl) ?_;refine wkg 1 (.pointer (some ⟨x,0,none⟩)) rfl ?_;refine wkg 2 (.pointer (some ⟨x,0,none⟩)) rfl ?_;refine wk 3 (.map (some ba)) rfl (fun w hm=>by obtain⟨m0,m1,m2,m3,m4⟩:=HMC.out w hm;clear m1 m2 m3 m4;go_simp) ?_;refine wkg 4 (.pointer (some ⟨b0,0,none⟩)) rfl ?_
     refine wk 5 (.string s1) rfl (fun w hm=>by obtain⟨m0,m1,m2,m3,m4⟩:=HMC.out w hm;clear m0 m2 m3 m4;go_simp) ?_;refine wk 6 (.agg #[.int .i64 px,.int .i64 py]) rfl (fun w hm=>by obtain⟨m0,m1,m2,m3,m4⟩:=HMC.out w hm;clear m0 m1 m2 m4;go_simp) ?_;refine wkg 7 (.pointer (some ⟨x,0,none⟩)) rfl ?_;refine wkg 8 (.pointer (some ⟨x,0,none⟩)) rfl ?_;refine wkg 9 (.pointer (some ⟨x,0,none⟩)) rfl ?_;refine wk 10 (.map (some ba)) rfl (fun w hm=>by obtain⟨m0,m1,m2,m3,m4⟩:=HMC.out w hm;clear m1 m2 m3 m4;go_simp) ?_
     refine wkg 11 (.pointer (some ⟨b0,1,none⟩)) rfl ?_;refine wk 12 (.string s2) rfl (fun w hm=>by obtain⟨m0,m1,m2,m3,m4⟩:=HMC.out w hm;clear m0 m1 m3 m4;go_simp) ?_;refine wk 13 (.agg #[.int .i64 qx,.int .i64 qy]) rfl (fun w hm=>by obtain⟨m0,m1,m2,m3,m4⟩:=HMC.out w hm;clear m0 m1 m2 m3;go_simp) ?_;refine aG (rs:=[14,15]) K9 (by simp) ((by repeat (first|exact Below.refl _ _|(refine Below.setCell ?_ (by simp) _)|(refine Below.alloc ?_ (by simp) _)))) ?_;refine bL.cons rfl (fun K' hK=>?_) (wnM rfl (fun K' hK=>?_))
     ·rw[if_pos K9];go_simp;refine hK _ _ ?_;refine wr1 15 ((by repeat (first|exact Below.refl _ _|(refine Below.setCell ?_ (by simp) _)|(refine Below.alloc ?_ (by simp) _)))) rfl (fun K' hK=>?_);go_simp;refine hK _ _ ?_;refine wr1 16 ((by repeat (first|exact Below.refl _ _|(refine Below.setCell ?_ (by simp) _)|(refine Below.alloc ?_ (by simp) _)))) rfl (fun K' hK=>?_);go_simp;refine hK _ _ ?_
      refine wr1 17 ((by repeat (first|exact Below.refl _ _|(refine Below.setCell ?_ (by simp) _)|(refine Below.alloc ?_ (by simp) _)))) rfl (fun K' hK=>?_);go_simp;refine hK _ _ ?_;refine wdM ?_;go_simp;have t4:Below wd.heap.size wd ((wd.alloc (.cells #[.int .i64 px,.int .i64 py] 44)).alloc (.cells #[.int .i64 qx,.int .i64 qy] 44)):=((Below.refl _ _).alloc (Nat.le_refl _) _).alloc (by simp) _;have HB9:=aa (aq HBD.out t4);have HIC:=aa (HIN.out _ t4);clear t4;go_wp2_with fail;refine HIC.out.mono ?_
      rintro _ w9 ⟨rfl,hb9⟩;have HB10:=aa (aq HB9.out hb9);clear hb9;go_wp2_with fail;go_ret;exact⟨by rw[HRS.out];rfl,HB10.out⟩
     ·rw[if_pos K9];go_simp;refine hK _ _ ?_;refine wr1 14 ((by repeat (first|exact Below.refl _ _|(refine Below.setCell ?_ (by simp) _)|(refine Below.alloc ?_ (by simp) _)))) rfl (fun K' hK=>?_);go_simp;refine hK _ _ ?_;refine wr1 16 ((by repeat (first|exact Below.refl _ _|(refine Below.setCell ?_ (by simp) _)|(refine Below.alloc ?_ (by simp) _)))) rfl (fun K' hK=>?_);go_simp;refine hK _ _ ?_
      refine wr1 17 ((by repeat (first|exact Below.refl _ _|(refine Below.setCell ?_ (by simp) _)|(refine Below.alloc ?_ (by simp) _)))) rfl (fun K' hK=>?_);go_simp;refine hK _ _ ?_;refine wdM ?_;go_simp;have t4:Below wd.heap.size wd ((wd.alloc (.cells #[.int .i64 qx,.int .i64 qy] 44)).alloc (.cells #[.int .i64 px,.int .i64 py] 44)):=((Below.refl _ _).alloc (Nat.le_refl _) _).alloc (by simp) _;have HB9:=aa (aq HBD.out t4);have HIC:=aa (HIN.out _ t4);clear t4;go_wp2_with fail;refine HIC.out.mono ?_
      rintro _ w9 ⟨rfl,hb9⟩;have HB10:=aa (aq HB9.out hb9);clear hb9;go_wp2_with fail;go_ret;exact⟨by rw[HRS.out];rfl,HB10.out⟩
