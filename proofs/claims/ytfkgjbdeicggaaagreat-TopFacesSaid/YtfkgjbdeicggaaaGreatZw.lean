/- For every valid map without violations of borders: the faces are as many as the borders, less the nodes, more the connected parts, and one; the unbounded one comes first and alone has no outer cycle; no other has an area that is not positive; each sound area is simple, and the areas of the faces that it covers add up to its own (at most 20 objects with 12 references and 20 tags each). -/
import Derived.Test.YtfkgjbdeicggaaaGreatZt
import Derived.Test.YtfkgjbdeicggaaaGreatZv
set_option maxHeartbeats 64000000
set_option maxRecDepth 100000
namespace Go.Proofs.YtfkgjbdeicggaaaGreat
open Go.RowKit Go.Proofs.Px Go.Proofs.Pn Go.Proofs.Pm Go.Proofs.Pg Go.Proofs.Pto Go.Proofs.Pf
attribute [local go_sem] Oper.semAt_some run_makeMap
theorem simple_reg{r:List Pt}(h:Pri.simple r=true):Pri.regB r=true:=by
 unfold Pri.simple at h;rw[Bool.and_eq_true]at h;exact h.1
theorem DF{w0 W:World}{r:List Pt}{A:Option Addr}{c:Nat}(h:xV w0 r A c W):Dz W (.slice A r.length c) r:=by
 refine⟨A,c,rfl,?_⟩;by_cases e:r=[]
 ·exact .inl e
 ·obtain⟨g,rfl,_,hg,hp⟩:=h.pts (List.length_pos_iff.2 e);exact .inr ⟨g,0,rfl,hg,fun i p hi=>by rw[Nat.zero_add];exact hp i p hi⟩
theorem zero_num(w:World):(zeroValue 3).run Tryz.prog w= .ok (.int .i64 0) w:=K9
theorem Hs{B D:Nat}{f:BA→Pt}{v:Value}{L:List (Pr×Value)}{W:World}(h:n9 B f D v L W):∃A c,v= .slice A L.length c∧(L.map Prod.fst=[]∨∃g,A=some ⟨g,0,none⟩∧g<W.heap.size∧Hn W g (L.map Prod.fst)):=by
 obtain⟨A,c,rfl⟩:=mR h.row;refine⟨A,c,rfl,?_⟩;rcases h.row.2 with⟨e,h0⟩|⟨g,cap,cur,e,_,hh,_⟩
 ·exact .inl (by rw[List.length_eq_zero_iff.1 h0];rfl)
 ·rw[Value.slice.injEq]at e;obtain⟨rfl,_,rfl⟩:=e;refine .inr ⟨g,rfl,lt_of_block hh,fun i p hp=>?_⟩;rw[List.getElem?_map]at hp;obtain⟨x,hx,rfl⟩:=Option.map_eq_some_iff.1 hp;obtain⟨c0,c1,_⟩:=h.cells hx;exact⟨c0,c1⟩
theorem DG{l:List Ob}{nb:BA→List BA}{P:BA→BA}{outs rims:List (List BA)}{at':List BA→Nat}(hm:aZ l=true)(hsm:dZ l)(hc:¬dA l)(hfac:gV l nb P outs rims)(hat:∀R∈rims,pV l P outs (aS R 0) (at' R))
  {w6 W:World}{B bm k j:Nat}{Aa:Option Addr}{ca:Nat}{fal:List BA}{T:Int}{mj:List (BA×Value)}(hare:w6.ownsRow B 9 1 (.slice Aa fal.length ca) fal.length (fal.map .string))(hfal:fal=tl l l outs k)(hT:k=0∨(0<T∧T=yG l outs rims at' (k-1)))(hj:j<fal.length)(hk:k≤outs.length)
  (hmj:cE W bm mj)(hsj:∀o∈l,cG l o=true→(aJ mj o.id).getD (.int .i64 0)= .int .i64 (kB l outs rims at' o.refs (k-1)+(if o.id∈fal.take j then T else 0)))(hb:Below w6.heap.size w6 W)(h6:w6.heap.size≤bm)(hl:mj.length<maxLen):
  ∃(s:BA)(S:Int)(W5:World)(ga:Nat),Aa=some ⟨ga,0,none⟩∧W.cell? ⟨ga,j,none⟩=some (.string s)∧(Instr.lookup 37 (.map (some bm)) (.string s) false).run Tryz.prog W= .ok (.int .i64 S) W∧(Instr.mapUpdate 37 (.map (some bm)) (.string s) (.int .i64 (S+T))).run Tryz.prog W= .ok () W5∧(0≤S∧0<T∧S+T≤8796093022208000)∧cE W5 bm (cR mj s (.int .i64 (S+T)))∧(cR mj s (.int .i64 (S+T))).length≤mj.length+1∧(∀o∈l,cG l o=true→(aJ (cR mj s (.int .i64 (S+T))) o.id).getD (.int .i64 0)= .int .i64 (kB l outs rims at' o.refs (k-1)+(if o.id∈fal.take (j+1)then T else 0)))∧Below w6.heap.size w6 W5:=by
 obtain⟨ga,cap,e⟩:=fv hare O9;rw[Value.slice.injEq]at e;obtain⟨rfl,_,rfl⟩:=e;have hfj:fal[j]? =some fal[j]:=List.getElem?_eq_getElem hj;have hcell:W.cell? ⟨ga,j,none⟩=some (.string fal[j]):=(hb.cell (p:=⟨ga,_,none⟩) (aj hare (b:=ga) rfl).2).trans (bg hare j _ (by rw[List.getElem?_map,hfj];rfl));have hsm2:fal[j]∈fal:=List.getElem_mem hj;have hnew:fal[j]∉fal.take j:=fun h=>by
  have hn:fal.Nodup:=by rw[hfal];exact IP hm
  have h1:(fal.take (j+1)).Nodup:=hn.sublist (List.take_sublist _ _);rw[dC hfj]at h1;exact(List.nodup_append.1 h1).2.2 _ h _ (by simp) rfl
 have htk:∀x,x∈fal.take (j+1)↔x∈fal.take j∨x=fal[j]:=fun x=>by rw[dC hfj,List.mem_append,List.mem_singleton]
 generalize fal[j]=s at*
 match k,hfal,hT,hk,hsj with
 |0,hfal,_,_,_=>rw[hfal]at hsm2;cases hsm2
 |i+1,hfal,hT,hk,hsj=>
  obtain⟨hT0,hTT⟩:=hT.resolve_left O9;have hTT':T=yG l outs rims at' i:=hTT;obtain⟨o,ho,ht,hcv,hid⟩:=Bw (by rw[←hfal];exact hsm2);have hsz:s.size≤maxLen:=by rw[←hid];exact Nat.le_trans (hsm.2 o ho).1 (by unfold maxLen;omega)
  have hS:=hsj o ho ht;rw[hid,if_neg hnew,Int.add_zero]at hS;have hlk:=hmj.look Tryz.underlying37 zero_num (x:=s) hsz;rw[hS]at hlk;obtain⟨W5,hst,hm5,ht5⟩:=hmj.store Tryz.underlying37 hl (x:=s) hsz (.int .i64 (kB l outs rims at' o.refs i+T));have hg1:=uM (r:=o.refs) hfac hm hc hat (outs.length-i) i O9;have hg2:=uM (r:=o.refs) hfac hm hc hat (outs.length-(i+1)) (i+1) O9;rw[jN,if_pos hcv,←hTT']at hg2;have har:=mP hm ho ht;rw[xT hfac hm hc hat har]at hg2
  have hbd:=Bq hm (c:=o.refs) (fun e=>by have:=har.three;rw[e]at this;simp at this) (by have:=(hsm.2 o ho).2.1;omega) (fun t ht=>rj har ht);refine⟨s,kB l outs rims at' o.refs i,W5,ga,rfl,hcell,hlk,hst,⟨hg1.1,hT0,O9⟩,hm5,by rw[dF];split<;>omega,fun o' ho' ht'=>?_,ak hb ht5.grown (fun r e=>by cases e;exact h6)⟩;rw[cC];by_cases e:o'.id=s
  ·have:o'=o:=(bP hm).eq ho' ho (by rw[e,hid]);subst this;rw[if_pos e,if_pos ((htk _).2 (.inr e))];rfl
  ·rw[if_neg e,hsj o' ho' ht'];by_cases h:o'.id∈fal.take j
   ·rw[if_pos h,if_pos ((htk _).2 (.inl h))]
   ·rw[if_neg h,if_neg (fun h'=>((htk _).1 h').elim h e)]
theorem DH(l:List Ob)(v:Value)(w:World)(hv:rD w v l):Calls Tryz.prog 3 #[.agg #[v]] w fun e w'=>e= .returned (.bool true)∧Below w.heap.size w w':=by
 have hmx:Tryz.prog.follows .mixedOrders=true:=K9;obtain⟨A,c,rfl,_,_⟩:=id hv.obs;obtain⟨w1,hw1⟩:∃w1,w.alloc (.cells #[.slice A l.length c] 24)=w1:=⟨_,rfl⟩;have hb1:Below w.heap.size w w1:=by rw[←hw1];exact(Below.refl _ _).alloc (Nat.le_refl _) _
 have hx1:w1.heap[w.heap.size]? =some (.cells #[.slice A l.length c] 24 (0,0)):=by rw[←hw1];exact heap_alloc_new _ _
 have HV:=aa hv;have HX1:=aa hx1;have HB1:=aa hb1;clear hb1 hx1 hv;go_enter Tryz.func3,Tryz.ntmps3;go_wp2_with fail;clear hw1;refine(xP w1).mono ?_;rintro _ w2 ⟨rfl,hb2⟩;have HX2:=aa (ai hb2 HX1.out);have HB2:=aa (aq HB1.out hb2);have d0:=(cD HX2.out).1;clear HX1 HB1 hb2;go_wp2_with fail;refine(yT l _ w2 (HV.out.below HB2.out)).mono ?_;rintro _ w3 ⟨rfl,hb3⟩;have HX3:=aa (ai hb3 HX2.out);have HB3:=aa (aq HB2.out hb3);clear HX2 HB2 hb3 d0;have d0:=(cD HX3.out).1;obtain⟨Fw,hfw⟩:∃F,rB 20 l=F:=⟨_,rfl⟩
 rw[hfw];have HF:=aa hfw;clear hfw;cases Fw with
 |false=>
  go_wp2_with fail;go_ret;exact⟨rfl,HB3.out⟩
 |true=>
  have hmi:=HV.out.mapI HF.out;have HMI:=aa hmi;have hsm:=CM HF.out;have HSM:=aa hsm;go_wp2_with fail;refine(iP l _ w3 (hmi.below HB3.out).obs hmi.len hmi.ok).mono ?_;rintro _ w4 ⟨rfl,hb4⟩;have HX4:=aa (ai hb4 HX3.out);have HB4:=aa (aq HB3.out hb4);clear HX3 HB3 hb4 d0 hmi hsm;have d0:=(cD HX4.out).1;obtain⟨M,hM⟩:∃M,aZ l=M:=⟨_,rfl⟩;rw[hM];have HM:=aa hM;clear hM;cases M with
  |false=>
   go_wp2_with fail;go_ret;exact⟨rfl,HB4.out⟩
  |true=>
   go_wp2_with fail;refine(tj l _ w4 (HMI.out.below HB4.out) HM.out HSM.out).mono ?_;rintro _ w5 ⟨Q,Aq,cq,rfl,hqn,hq,hb5⟩;have HX5:=aa (ai hb5 HX4.out);have HB5:=aa (aq HB4.out hb5);clear HX4 HB4 hb5 d0;have d0:=(cD HX5.out).1;by_cases hc:dA l
   ·have hpos:0<Q.length:=by
     obtain⟨q,hqq⟩:=(oK l).2 ((qz l).2 hc);exact List.length_pos_of_mem ((hq q).2 hqq)
    have hpi:(0:Int)<Q.length:=O9;clear hqn hq hc hpos;go_wp2_with fail;go_ret;exact⟨rfl,HB5.out⟩
   ·have hQ:Q=[]:=List.eq_nil_iff_forall_not_mem.2 (fun q hqm=>hc ((qz l).1 ((oK l).1 ⟨q,(hq q).1 hqm⟩)));subst hQ;have HC:=aa hc;clear hqn hq hc;go_wp2_with fail;refine(tn l _ w5 (HMI.out.below HB5.out) HM.out HSM.out HC.out).mono ?_;rintro _ w6 ⟨vf,rfl,nb,P,outs,rims,at',fs,B,hfac,hat,hfar,hfs,hb6⟩;have HX6:=aa (ai hb6 HX5.out);have HX6W:=HX6;have HB6:=aa (aq HB5.out hb6);have HB6W:=HB6;clear HX5 HB5 hb6 d0;have d0:=(cD HX6.out).1;have HFAC:=aa hfac;have HAT:=aa hat;have HFAR:=aa hfar
    have HFS:=aa hfs;clear hfac hat hfar hfs;go_wp2_with fail;refine(xK l _ w6 (HMI.out.below HB6.out) HM.out HSM.out).mono ?_;rintro _ w7 ⟨bv,L,D,rfl,hbd,hLB,hb7⟩;have HX7:=aa (ai hb7 HX6.out);have HB7:=aa (aq HB6.out hb7);have HB67:=aa hb7;clear HX6 HB6 hb7 d0;have d0:=(cD HX7.out).1;obtain⟨Ab,cb,rfl,hAb⟩:=Hs hbd;(have hll:L.length=(af l).length:=by rw[←hLB,List.length_map]);rw[hLB]at hAb;rw[hll];have HJN:=aa (zR (af l) Ab cb w7 (e9 HSM.out) hAb (fun p hp=>bO HSM.out hp));clear hbd hLB hAb hll
    go_wp2_with fail;refine HJN.out.mono ?_;rintro _ w8 ⟨jx,jy,rfl,V,gl,hjx,hjy,hnod,hjo,hlb,hb8⟩;have HX8:=aa (ai hb8 HX7.out);have HB8:=aa (aq HB7.out hb8);have HB68:=aa (aq HB67.out hb8);clear HX7 HB7 HB67 hb8 d0 HJN;have d0:=(cD HX8.out).1;obtain⟨hl1,hl2,hl3⟩:=hjo.labels hnod hlb;have heu:=(show gV l nb gl outs rims from⟨HFAC.out.nbi,hl1,HFAC.out.cyc,HFAC.out.out,HFAC.out.rim⟩).euler HM.out HC.out hnod.1 hnod.steps hl2 hl3;have hvl:V.length≤480:=by
     refine Nat.le_trans (jR (m:=(an l).map Prod.fst) hnod.1 fun v hv=>?_) (by rw[List.length_map];exact lZ HSM.out);obtain⟨s,hs,e⟩:=(hnod.steps v).1 hv;exact List.mem_map.2 ⟨s,hs,e⟩
    have hkl:(V.filter fun v=>decide (v=gl v)).length≤V.length:=List.length_filter_le _ _;have hol:outs.length≤480:=by
     have h1:=(uG HFAC.out.cyc (nz HM.out HC.out)).1;rw[List.length_append]at h1;have:=lZ HSM.out;omega
    obtain⟨n,hn⟩:∃z,outs.length=z:=⟨_,rfl⟩;(have hfl:fs.length=n+1:=by rw[HFS.out.1,hn]);have hown:=HFAR.out.own;rw[hfl]at hown;obtain⟨g,cf,rfl⟩:=fv hown O9;obtain⟨nf,hnf⟩:∃z,n+1=z:=⟨_,rfl⟩;obtain⟨E,hE⟩:∃z,(af l).length=z:=⟨_,rfl⟩;have hEb:=e9 HSM.out;rw[hE]at heu hEb ⊢;have b1:0≤jx:=O9;have b2:jx≤480:=O9;have b3:0≤jy:=O9;have b4:jy≤480:=O9;have b5:(nf:Int)≤481:=O9;have b6:(E:Int)≤240:=O9;have heq:jy-(E:Int)+(nf:Int)=1+jx:=O9;have hbq:(jy-(E:Int)+(nf:Int) != 1+jx)=false:=by rw[heq];simp
    have HN:=aa hn;have HNF:=aa hnf;have HFL:=aa hfl;rw[hnf]at hown ⊢;have HOWN:=aa hown;clear hl1 hl2 hl3 heu hvl hkl hol hjx hjy hnod hjo hlb hn hnf hfl hown hE hEb heq;go_wp2_with fail;obtain⟨bm,hbm⟩:∃z,w8.heap.size=z:=⟨_,rfl⟩;obtain⟨w9,hw9⟩:∃z,w8.alloc (.map #[] 0)=z:=⟨_,rfl⟩;(have hb9:Below w8.heap.size w8 w9:=by rw[←hw9];exact(Below.refl _ _).alloc (Nat.le_refl _) _);have HML0:Hid (cE w9 bm []):=aa (by rw[←hw9,←hbm];exact cK _ w8);have HB69:=aa (aq HB68.out hb9)
    have HB6M:Hid (w6.heap.size≤bm):=aa (by rw[←hbm];exact HB68.out.size);rw[hw9,hbm];clear hb9 hw9 hbm d0 HX8 HB8;go_loopw [10] (fun i wr=>∃(k:Nat)(ml:List (BA×Value)),k≤nf∧i= .int .i64 k∧ml.length≤20*k∧Hid (cE wr bm ml)∧Hid (∀o∈l,cG l o=true→(aJ ml o.id).getD (.int .i64 0)= .int .i64 (kB l outs rims at' o.refs (k-1)))∧Hid (Below w6.heap.size w6 wr)) (fun i _=>nf-(intOf i).toNat)
    case atStart=>exact⟨0,[],Nat.zero_le _,rfl,Nat.zero_le _,HML0,aa (fun o _ _=>rfl),HB69⟩
    case round=>
     clear HML0 HB69;obtain⟨k,ml,hk,rfl,hmll,hml,hsm,hbw⟩:=hrel;by_cases hlt:k<nf
     ·obtain⟨f,hf⟩:∃f,fs[k]? =some f:=⟨_,List.getElem?_eq_getElem (by rw[HFL.out,HNF.out];exact hlt)⟩;obtain⟨a0,a1,a2⟩:=rh fs k f hf;have hg:g<w6.heap.size:=(aj HOWN.out (b:=g) rfl).2;have e0:=bg HOWN.out _ _ a0;have e1:=bg HOWN.out _ _ a1;have e2:=bg HOWN.out _ _ a2;obtain⟨r1,r2,r3,r4,r5⟩:=HFS.out.2 k f hf;have hare:=HFAR.out.are f (List.mem_of_getElem? hf);have HTW:=aa (fun v w hv hb=>rq HM.out HSM.out HC.out HFAC.out HFAR.out HFS.out hf v w hv hb);obtain⟨fo,fol,fh,fhr,fa,fal⟩:=f
      simp only at r1 r2 r4 hare;obtain⟨Ao,co,rfl,_,_⟩:=id r4;obtain⟨Aa,ca,rfl⟩:=mR hare;have hbd:Below w6.heap.size w6 wr.drew:=aq hbw.out (aA _);have HTW2:=aa (HTW.out (.slice A l.length c) wr.drew (HMI.out.below (aq HB6W.out hbd)) hbd);simp only at HTW2;have y0:wr.drew.cell? ⟨g,k*3,none⟩=some (.slice Ao fol.length co):=(hbd.cell (p:=⟨g,_,none⟩) hg).trans e0;have y1:wr.drew.cell? ⟨g,k*3+1,none⟩=some fh:=(hbd.cell (p:=⟨g,_,none⟩) hg).trans e1
      have y2:wr.drew.cell? ⟨g,k*3+2,none⟩=some (.slice Aa fal.length ca):=(hbd.cell (p:=⟨g,_,none⟩) hg).trans e2;have y3:wr.drew.cell? ⟨w.heap.size,0,none⟩=some (.slice A l.length c):=(cD (ai hbd HX6W.out)).1;have HE0:=aa e0;have HE2:=aa e2;have HG:=aa hg;have HARE:=aa hare;have HR1:=aa r1;have HR2:=aa r2;obtain⟨T,hT⟩:∃z,Jr l outs rims at' k=z:=⟨_,rfl⟩;rw[hT]at HTW2;have HT:=aa hT;have k0:(0:Int)≤k:=O9;have k1:(k:Int)<nf:=O9;have k2:k<nf:=hlt;have HLT:=aa hlt;have HMLR:=aa hml.out
      have HSMR:=aa hsm.out;have HBWR:=aa hbw.out;clear a0 a1 a2 e0 e1 e2 hg r1 r2 r3 r4 r5 hare HTW hbd hT hlt hml hsm hbw hf;go_upto_region 13 with(fail);go_still_tail 5,K9;change wpList _ _ _ _ _ wr.drew;clear y0 y1 y2 y3;go_wp2_with fail;refine HTW2.out.mono ?_;rintro _ wt ⟨rfl,hbt⟩;have hbz:Below wr.heap.size wr wt:=aq (aA _) hbt;have hbw2:Below w6.heap.size w6 wt:=aq HBWR.out hbz;have HMLT:Hid (cE wt bm ml):=aa (HMLR.out.kept (aI hbz) (by simp))
      have y0:wt.cell? ⟨g,k*3,none⟩=some (.slice Ao fol.length co):=(hbw2.cell (p:=⟨g,_,none⟩) HG.out).trans HE0.out;have y2:wt.cell? ⟨g,k*3+2,none⟩=some (.slice Aa fal.length ca):=(hbw2.cell (p:=⟨g,_,none⟩) HG.out).trans HE2.out;have HB6T:=aa hbw2;have HTP:Hid (k=0∨(0<T∧T=yG l outs rims at' (k-1)∧fol.length≠0)):=aa (by
       rw[←HT.out]
       match k,HR1.out,k2 with
       |0,_,_=>exact .inl rfl
       |i+1,hr1,hk2=>
        (have hi:i<outs.length:=by have:=HNF.out;rw[HN.out];omega);refine .inr ⟨HFAC.out.face_pos HM.out HC.out (fun R hR=>(HAT.out R hR).1) hi,rfl,?_⟩;have hr1':fol=outs.getD i []:=hr1;rw[hr1',List.getD_eq_getElem?_getD,List.getElem?_eq_getElem hi,Option.getD_some];exact fun e=>(HFAC.out.cyc.cyc _ (List.mem_append_left _ (List.getElem_mem hi))).ne (List.length_eq_zero_iff.1 e))
      have HZ:Hid (k=0→fol.length=0):=aa (fun e=>by
       have:=HR1.out;subst e;rw[this];rfl)
      have HF20:Hid (fal.length≤20):=aa (by
       rw[HR2.out]
       match k with
       |0=>exact Nat.zero_le _
       |i+1=>exact Nat.le_trans (xz _ _ _) HSM.out.1)
      have hf20:=HF20.out;have hml20:ml.length≤20*k:=hmll;clear hbt hbz hbw2 HTW2 HMLR HBWR y0;have y0:wt.cell? ⟨g,k*3,none⟩=some (.slice Ao fol.length co):=(HB6T.out.cell (p:=⟨g,_,none⟩) HG.out).trans HE0.out;have ways:(((fol.length:Int) ==0)=true∧((k:Int) ==0)=true∧¬(0:Int)<k)∨(((fol.length:Int) ==0)=false∧((k:Int) ==0)=false∧(0:Int)<k∧¬T≤0):=by
       rcases HTP.out with e|⟨h1,_,h3⟩
       ·have:=HZ.out e;left;rw[this,e];exact⟨rfl,rfl,O9⟩
       ·right;have hk0:k≠0:=fun e=>h3 (HZ.out e);exact⟨beq_eq_false_iff_ne.2 O9,beq_eq_false_iff_ne.2 O9,O9,O9⟩
      rcases ways with⟨x1,x2,x3⟩|⟨x1,x2,x3,x4⟩
      all_goals (
       go_wp2_with fail;clear x1 x2 x3 y0 y2;go_loopw [12] (fun i wr=>∃(j:Nat)(mj:List (BA×Value)),j≤fal.length∧i= .int .i64 j∧mj.length≤20*k+j∧Hid (cE wr bm mj)∧Hid (∀o∈l,cG l o=true→(aJ mj o.id).getD (.int .i64 0)= .int .i64 (kB l outs rims at' o.refs (k-1)+(if o.id∈fal.take j then T else 0)))∧Hid (Below w6.heap.size w6 wr)) (fun i _=>fal.length-(intOf i).toNat)
       case atStart=>exact⟨0,ml,Nat.zero_le _,rfl,O9,HMLT,aa (fun o ho ht=>by rw[HSMR.out o ho ht];simp),HB6T⟩
       case round=>
        clear HMLT HB6T;obtain⟨j,mj,hj,rfl,hmjl,hmj,hsj,hbj⟩:=hrel;have y2:wr.cell? ⟨g,k*3+2,none⟩=some (.slice Aa fal.length ca):=(hbj.out.cell (p:=⟨g,_,none⟩) HG.out).trans HE2.out;by_cases hjl:j<fal.length
        ·obtain⟨s,S,W5,ga,rfl,hcl,hlk,hst,⟨b1',b2',b3'⟩,hm5,hl5,hs5,hb5'⟩:=DG HM.out HSM.out HC.out HFAC.out (fun R hR=>(HAT.out R hR).1) HARE.out HR2.out (HTP.out.imp id (fun h=>⟨h.1,h.2.1⟩)) hjl (by have:=HNF.out;rw[HN.out];omega) hmj.out hsj.out hbj.out HB6M.out (by unfold maxLen;omega);have y3:(j:Int)<fal.length:=O9;have y4:(0:Int)≤j:=O9;have HM5:=aa hm5;have HS5:=aa hs5;have HB5':=aa hb5';have HL5:=aa (show(cR mj s (.int .i64 (S+T))).length≤20*k+(j+1)by omega);have HJL:=aa hjl
         clear hm5 hs5 hb5' hl5 hmj hsj hbj hmjl hj hjl;go_wp2_with fail;have hjl:=HJL.out;refine⟨⟨j+1,_,O9,by go_num,HL5.out,HM5,HS5,HB5'⟩,?_⟩;simp[intOf];omega
        ·(have hjn:j=fal.length:=by omega);rw[hjn,List.take_length]at hsj;have HMJ:=aa hmj.out;have HBJ:=aa hbj.out;have HSK:Hid (∀o∈l,cG l o=true→(aJ mj o.id).getD (.int .i64 0)= .int .i64 (kB l outs rims at' o.refs (k+1-1))):=aa (fun o ho ht=>by
          rw[hsj.out o ho ht,HR2.out];rcases DE (outs:=outs) (rims:=rims) (at':=at') HM.out ho ht (T:=T) (HTP.out.imp id (fun h=>h.2.1))with e|⟨e,_⟩
          ·rw[e];rfl
          ·subst e;rw[if_neg (fun h=>by cases h),Int.add_zero])
         have HMLK:=aa (show mj.length≤20*(k+1)by omega);have y9:¬(j:Int)<fal.length:=O9;clear hmj hsj hbj hmjl hj hjl hjn;go_wp2_with fail;have hlt:=HLT.out;refine⟨⟨k+1,mj,O9,by go_num,HMLK.out,HMJ,HSK,HBJ⟩,?_⟩;simp[intOf];omega)
     ·(have hkn:k=nf:=by omega);have HSF:Hid (∀o∈l,cG l o=true→(aJ ml o.id).getD (.int .i64 0)= .int .i64 (max (tw (aw l o.refs)) (-tw (aw l o.refs)))):=aa (fun o ho ht=>by
       rw[hsm.out o ho ht,hkn,←HNF.out,Nat.add_sub_cancel,←HN.out,xT HFAC.out HM.out HC.out (fun R hR=>(HAT.out R hR).1) (mP HM.out ho ht)])
      have HMF:=aa hml.out;have HBF:=aa hbw.out;have hl20:l.length≤20:=HSM.out.1;clear hml hsm hbw hmll hkn;go_wp2_with fail;go_loopw [13] (fun i wr=>∃(k:Nat),k≤l.length∧i= .int .i64 k∧Hid (cE wr bm ml)∧Hid (Below w6.heap.size w6 wr)) (fun i _=>l.length-(intOf i).toNat)
      case atStart=>exact⟨0,Nat.zero_le _,rfl,HMF,HBF⟩
      case round=>
       clear HMF HBF;obtain⟨k,hk,rfl,hmw,hbw⟩:=hrel;have hW:=aq HB6W.out hbw.out;have d0:wr.cell? ⟨w.heap.size,0,none⟩=some (.slice A l.length c):=(cD (ai hbw.out HX6W.out)).1;by_cases hlt:k<l.length
       ·obtain⟨A',c',e,_,ham⟩:=HMI.out.obs;rw[Value.slice.injEq]at e;obtain⟨ea,_,ec⟩:=e;subst ea;subst ec;obtain⟨gm,om,rfl,hgm,hpm⟩:=ham.resolve_left (by rintro rfl;simp at hlt);obtain⟨rv,tv,hoa⟩:=hpm k _ (List.getElem?_eq_getElem hlt);have hom:=List.getElem_mem hlt;have HSTR:=aa hoa.refs;have HTAG:=aa hoa.tags;obtain⟨Af,cfr,hrv,_⟩:=id hoa.refs;obtain⟨At,ct,htv,_⟩:=id hoa.tags;subst hrv;subst htv;obtain⟨d1,d2,d3,d4,d5,d6,_,_⟩:=hoa.below hgm hW;have HLK:=aa (List.getElem?_eq_getElem hlt)
        have HOM:=aa hom;generalize l[k]=t at*;have k0:(0:Int)≤k:=O9;have k1:(k:Int)<l.length:=O9;have HL:=aa hlt;obtain⟨wo,hwo⟩:∃wo,wr.alloc (.cells #[.string t.id,.int .i64 t.kind,.int .i64 t.x,.int .i64 t.y,.slice Af t.refs.length cfr,.slice At t.tags.length ct] 47)=wo:=⟨_,rfl⟩;have hbao:Below wr.heap.size wr wo:=by rw[←hwo];exact(Below.refl _ _).alloc (Nat.le_refl _) _
        (have hblk:wo.heap[wr.heap.size]? =some (.cells #[.string t.id,.int .i64 t.kind,.int .i64 t.x,.int .i64 t.y,.slice Af t.refs.length cfr,.slice At t.tags.length ct] 47 (0,0)):=by rw[←hwo];exact heap_alloc_new _ _);obtain⟨e0,e1,e2,e3,e4,e5⟩:=eE hblk;have HWOO:=aa (aq hW hbao);have HW6O:=aa (aq hbw.out hbao);have f0:wo.cell? ⟨w.heap.size,0,none⟩=some (.slice (some ⟨gm,om,none⟩) l.length c):=(cD (ai HW6O.out HX6W.out)).1;have HMO:=aa (hmw.out.kept (aI hbao) (by simp));have HBLK:=aa hblk
        have HWO:=aa hwo;clear hbao hblk hpm hoa hom hlt hmw hbw hW ham;by_cases hk3:t.kind=3
        ·have HSD:=aa (ph l (.slice (some ⟨gm,om,none⟩) l.length c) HM.out (nw t.kind) t (.slice Af t.refs.length cfr) (.slice At t.tags.length ct) wo (Nat.le_refl _) HOM.out (HMI.out.below HWOO.out) (HSTR.out.below HWOO.out) (HTAG.out.below HWOO.out));have HK3:=aa hk3;unfold eN at HSD;rw[hk3]at HSD HWO hwo HBLK e1;obtain⟨R,hR⟩:∃z,dz l t=z:=⟨_,rfl⟩;rw[hR]at HSD;have HR:=aa hR;clear hR;cases R with
         |false=>
          go_wp2_with fail;refine HSD.out.mono ?_;rintro _ w7' ⟨rfl,h7⟩;have HM7:=aa (HMO.out.kept (aI h7) (by simp));have HB7':=aa (aq HW6O.out h7);clear h7 HSD;go_wp2_with fail;have hlt:=HL.out;refine⟨⟨k+1,O9,by go_num,HM7,HB7'⟩,?_⟩;simp[intOf];omega
         |true=>
          go_wp2_with fail;refine HSD.out.mono ?_;rintro _ w7' ⟨rfl,h7⟩;have HM7:=aa (HMO.out.kept (aI h7) (by simp));have HB7':=aa (aq HW6O.out h7);have f7:w7'.cell? ⟨w.heap.size,0,none⟩=some (.slice (some ⟨gm,om,none⟩) l.length c):=(cD (ai HB7'.out HX6W.out)).1;have HBL7:=aa (ai h7 HBLK.out);have e7:w7'.cell? ⟨wr.heap.size,0,none⟩=some (.string t.id):=(eE HBL7.out).1;have hall:∀s∈t.refs,isNode l s=true:=by
           have h:=HR.out;unfold dz at h;rw[HK3.out,if_neg (by decide),if_pos (.inr rfl)]at h;exact List.all_eq_true.1 h
          have har:nD l t.refs:=tX HM.out HOM.out HK3.out (List.all_eq_true.2 hall);have HAR:=aa har;have htk:=z8 HM.out HOM.out HK3.out (List.all_eq_true.2 hall);(have hrn:t.refs.length≤1000:=by have:=(HSM.out.2 t HOM.out).2.1;omega);have hsim:=har.simple HM.out HC.out;have hreg:=simple_reg hsim;have htw:=ER hreg;rw[←dB]at htw;have hbd:=Bq HM.out (c:=t.refs) (fun e=>by have:=har.three;rw[e]at this;simp at this) hrn (fun s hs=>rj har hs);have hsum:=HSF.out t HOM.out htk
          have HPT:=aa (xR l HM.out hl20 k t HLK.out HK3.out hrn hall _ w7' (HMI.out.below (aq HB6W.out HB7'.out)));(have hpl:(bF l t.refs).length≤100000:=by rw[eJ];omega);have HTC:=aa (fun(v:Value)(W:World)(hv:Dz W v (bF l t.refs))=>zX (bF l t.refs) v W hv hpl);have HSI:=aa (fun(v:Value)(W:World)(hv:Dz W v (bF l t.refs))=>z7 (bF l t.refs) v W hv hpl);rw[htw]at HTC;rw[hsim]at HSI;obtain⟨T,hT⟩:∃z,tw (aw l t.refs)=z:=⟨_,rfl⟩;rw[hT]at HTC hbd hsum;have HSUM:=aa hsum;have b7:=hbd.1;have b8:=hbd.2
          have hidz:t.id.size≤maxLen:=Nat.le_trans (HSM.out.2 t HOM.out).1 (by unfold maxLen;omega);have HIDZ:=aa hidz;clear h7 HSD hall har htk hrn hsim hreg htw hbd hsum hpl hT hidz f0 e0 e1 e2 e3 e4 e5 d0 d1 d2 d3 d4 d5 d6 hwo;go_wp2_with fail;refine HPT.out.mono ?_;rintro _ wp ⟨vp,rfl,Ap,cp,rfl,⟨wb,hpn⟩,hbp⟩;have hsl:=DF hpn;have HSL:=aa hsl;have HMP:=aa (HM7.out.kept (aI hbp) (by simp));have HBP:=aa (aq HB7'.out hbp);have HBLP:=aa (ai hbp HBL7.out);have HTC2:=aa (HTC.out _ wp hsl)
          clear HPT hpn hsl hbp f7 e7;go_wp2_with fail;refine HTC2.out.mono ?_;rintro _ wq ⟨rfl,hbq⟩;have HMQ:=aa (HMP.out.kept (aI hbq) (by simp));have HBQ:=aa (aq HBP.out hbq);have HBLQ:=aa (ai hbq HBLP.out);have HSI2:=aa (HSI.out _ wq (HSL.out.below hbq));clear HTC HTC2 hbq;go_wp2_with fail;refine HSI2.out.mono ?_;rintro _ ws ⟨rfl,hbs⟩;have hml:=HMQ.out.kept (aI hbs) (by simp);have HMS:=aa hml;have HBS:=aa (aq HBQ.out hbs)
          have e8:ws.cell? ⟨wr.heap.size,0,none⟩=some (.string t.id):=(eE (ai hbs HBLQ.out)).1;have hlk:=hml.look Tryz.underlying37 zero_num (x:=t.id) HIDZ.out;rw[HSUM.out]at hlk;change (Instr.lookup 37 (.map (some bm)) (.string t.id) false).run _ _=_ at hlk;obtain⟨mx,hmxe⟩:∃z,max T (-T)=z:=⟨_,rfl⟩;rw[hmxe]at hlk;(have hmne:(mx != max T (-T))=false:=by rw[hmxe];simp);clear HSI HSI2 hbs hml hmxe;go_wp2_with fail;have hlt:=HL.out;refine⟨⟨k+1,O9,by go_num,HMS,HBS⟩,?_⟩;simp[intOf];omega
        ·(have q1:(t.kind != 3)=true:=by rw[bne_iff_ne];exact hk3);go_wp2_with fail;have hlt:=HL.out;refine⟨⟨k+1,O9,by go_num,HMO,HW6O⟩,?_⟩;simp[intOf];omega
       ·have HWF:=aa hW;clear hmw hbw hW;go_wp2_with fail;go_ret;exact⟨rfl,HWF.out⟩
end Go.Proofs.YtfkgjbdeicggaaaGreat
namespace Go.Proofs.YtfkgjbdeicggaaaGreat.topFaces
open Go.ChangeShapes Go.WideShapes Go.ChangeAt Go.RowKit Go.ChangeMaps
theorem own:ownKnob Tryz.prog.godebug=none:=K9
section
variable {H:Type} {enc:TypeId×Value→H} {P:Program}
theorem rI{f:Func}{s:ChangeSpec}{apart fresh handsOn again:Bool}{W W':World}{args:Array Value}{v:Value}{ds gs:List (DataW H)}{before pa pv:List MemPlace}
  (hW:DataW.Whole enc P f.params.toList s.vars apart W args.toList ds gs before)
  (hres:∀(b:Nat)(sp:Nat→Bool)(hd:Bool),DataW.TrodAll enc P W' b sp hd f.resultTypes.toList (v.resultList f.resultTypes.size) (s.fn H (ds++gs)).results [])
  (hargs:∀sp:Nat→Bool,(∀p∈before,sp p.block=true)→DataW.TrodAll enc P W' 0 sp true f.params.toList args.toList (s.fn H (ds++gs)).args pa)
  (hvars:∀sp:Nat→Bool,(∀p∈before,sp p.block=true)→DataW.TrodVars enc P W' sp s.vars (s.fn H (ds++gs)).vars pv)
  (hps:before=pa++pv)(hb:Below W.heap.size W W')
  (hok:∀(j:Nat)(t:TypeId)(r:Value),f.resultTypes[j]? =some t→(v.resultList f.resultTypes.size)[j]? =some r→Value.okWide P W' .any 0 t r):
  s.post enc P f apart fresh handsOn again W args v W':=by
 have hlt:∀p∈before,p.block<W.heap.size:=fun p hp=>hW.lt p hp;have hold:∀p∈before,(fun b=>decide (b<W.heap.size)) p.block=true:=fun p hp=>by simpa using hlt p hp
 refine⟨ds,gs,before,[],pa,pv,hW,hres _ _ _,hargs _ hold,hvars _ hold,World.keptBut_mono (fun p hp=>⟨hp,?_⟩) (hb.frame (·∈before)),fun _=>?_⟩
 ·rw[hps,List.mem_append]at hp;exact Or.inr hp
 ·obtain⟨_,_,_,_,_,hz,hn⟩:=hW;refine⟨hok,_,_,([]++pa)++pv,⟨[]++pa,pv,trodAll_append (hargs _ (fun _ _=>rfl)) (hres _ _ _),hvars _ (fun _ _=>rfl),rfl,?_,?_⟩,?_⟩
  ·intro b off hp;(have hin:MemPlace.cell b off∈before:=by rw[hps];simpa using hp);rw[hb.frozen (hlt _ hin)];exact hz b off hin
  ·intro ha;have:=hn ha;rw[hps]at this;simpa using this
  ·intro p hp _;rw[hps];simpa using hp
end
theorem lifted(os:Os)(started:os.Started)(H:Type)(enc:TypeId×Value→H):ReturnsInHanded {} Tryz.checked os 3 .any (Rows.topFacesSpec.pre6 enc Tryz.prog Tryz.f3 Rows.topFacesRow.domain false) (Rows.topFacesSpec.post enc Tryz.prog Tryz.f3 false true false false):=by
 refine returnsInHanded_of_change (C:=Tryz.checked) own started K9 Tryz.func3
  (ChangeSpec.witness6 (enc:=enc) (C:=Tryz.checked) false ⟨#[],#[.agg #[.slice none 0 0]],[]⟩ 8 K9 K9 K9 K9) ?_
 intro W base args ds gs before hval0 hW _ _;have hval:∀(j:Nat) t v,Tryz.f3.params[j]? =some t→args[j]? =some v→Value.okWide Tryz.prog W .any base t v:=hval0;have hW':=hW;obtain⟨p,q,hA0,hV,rfl,hfz,hnd⟩:=hW;have hA:DataW.TrodAll enc Tryz.prog W 0 (fun _=>true) true Tryz.f3.params.toList args.toList ds p:=hA0;rw[Tryz.params3]at hA hval;obtain⟨v0,vs0,d0,ds0,p0,q0,hargs,rfl,rfl,h0,r0'⟩:=trodAll_cons hA;obtain⟨rfl,rfl,rfl⟩:=trodAll_nil r0';obtain rfl:args=#[v0]:=by cases args;simp_all
 obtain⟨rfl,rfl⟩:=trodVars_none hV;obtain⟨v0c,r0,rfl,sl0⟩:=open_map (hval 0 24 v0 rfl rfl) h0;clear hA0 hval0;refine(DH r0 v0c W sl0).mono fun e W' ⟨he,hg⟩=>?_;subst he;exact⟨_,rfl,rI (pa:=(p0++[])) (pv:=[]) hW' (fun _ _ _=>(trodAll_cons_mk (shut_bool Tryz.underlying4 _) trodAll_mk0)) (fun sp hsp=>(trodAll_cons_mk (Co h0 hg sp (fun q hq=>hsp q (by simp[hq]))) trodAll_mk0)) (fun _ _=>rfl) rfl
  hg (ok_one K9 rfl (okWide_bool_mk Tryz.underlying4 _))⟩
theorem over:Rows.topFacesRow.holds Tryz.pinned (OpenSpec.ofChange Rows.topFacesSpec):=
 OpenClaim.holds_of_wide 3 Tryz.f3 rfl rfl rfl rfl rfl rfl rfl ⟨rfl,rfl,rfl,rfl,rfl⟩ rfl rfl rfl rfl rfl K9 Tryz.func3 K9
  (of_decide_eq_true K9) (by unfold Func.isWrapper;first|(rw[if_pos (by decide+kernel)];kernel_rfl)|(rw[if_neg (by decide+kernel)];exact⟨rfl,rfl⟩))
  (fun os started H enc _=>lifted os started H enc)
theorem proved:Rows.TopFacesSaid:=over
