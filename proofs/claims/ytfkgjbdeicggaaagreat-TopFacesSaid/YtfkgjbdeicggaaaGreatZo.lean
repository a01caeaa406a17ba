/-
  Where an object is, walked.
-/
import Derived.Test.YtfkgjbdeicggaaaGreatZn
set_option maxHeartbeats 16000000
set_option maxRecDepth 100000
namespace Go.Proofs.YtfkgjbdeicggaaaGreat
open Go.RowKit Go.Proofs.Px Go.Proofs.Pn Go.Proofs.Pm Go.Proofs.Pg Go.Proofs.Pto Go.Proofs.Pf
attribute [local go_sem] Oper.semAt_some
theorem xB{l:List Ob}(hu:uniq l){j k:Nat}{a b:Ob}(h1:l[j]? =some a)(h2:l[k]? =some b)(e:a.id=b.id):j=k:=by
 obtain⟨hj,rfl⟩:=List.getElem?_eq_some_iff.1 h1;obtain⟨hk,rfl⟩:=List.getElem?_eq_some_iff.1 h2;rcases Nat.lt_trichotomy j k with g|g|g
 ·exact absurd e (List.pairwise_iff_getElem.1 hu j k hj hk g)
 ·exact g
 ·exact absurd e.symm (List.pairwise_iff_getElem.1 hu k j hk hj g)
theorem IM(a b:BA):(a.toList ==b.toList)=decide (a=b):=by
 by_cases h:a=b
 ·subst h;simp
 ·rw[decide_eq_false h];exact beq_eq_false_iff_ne.2 (fun e=>h (toList_inj.1 e))
theorem Dl(o:Ob)(rv tv:Value)(s:BA)(b:Nat)(w:World)(hb:w.heap[b]? =some (.cells #[.string s] 9 (0,0))):Calls Tryz.prog 107 #[.agg (eN o rv tv),.pointer (some ⟨b,0,none⟩)] w fun e w'=>e= .returned (.bool (decide (o.id=s)))∧Below w.heap.size w w':=by
 obtain⟨w2,hw2⟩:∃z,w.alloc (.cells (eN o rv tv) 47)=z:=⟨_,rfl⟩;have hbe:Below w.heap.size w w2:=by rw[←hw2];exact(Below.refl _ _).alloc (Nat.le_refl _) _
 have hx:=ai hbe hb;have hy:w2.heap[w.heap.size]? =some (.cells (eN o rv tv) 47 (0,0)):=by rw[←hw2];exact heap_alloc_new _ _
 unfold eN at hw2 hy ⊢;have c1:w2.cell? ⟨b,0,none⟩=some (.string s):=(cD hx).1;have c2:w2.cell? ⟨w.heap.size,0,none⟩=some (.string o.id):=cell_of_row _ _ 0 _ _ _ hy;have HB:=aa hbe;have HE:=aa (IM o.id s);clear hb hbe hx hy;go_enter Tryz.func107,Tryz.ntmps107;go_wp2_with fail;go_ret;exact⟨ag HE.out,HB.out⟩
theorem Hh(l:List Ob)(hu:uniq l)(k:Nat)(o:Ob)(hk:l[k]? =some o)(v:Value)(b:Nat)(w:World)(hv:wJ w v l)(hl:l.length≤100000)(hb:w.heap[b]? =some (.cells #[.string o.id] 9 (0,0))):Calls Tryz.prog 106 #[v,.func (.func 107) #[] #[.pointer (some ⟨b,0,none⟩)]] w fun e w'=>e= .returned (.int .i64 k)∧Below w.heap.size w w':=by
 have HB:=aa hb;have hkl:=(List.getElem?_eq_some_iff.1 hk).1;have HK:=aa hk;obtain⟨A,c,rfl,_,hA⟩:=hv;have HA:=aa hA;have HU:=aa hu;clear hA hb hk hu;go_enter Tryz.func106,Tryz.ntmps106;go_wp2_with fail;go_loopw [8] (fun i wr=>∃(j:Nat),j≤k∧i= .int .i64 j∧Hid (Below w.heap.size w wr)) (fun i _=>l.length-(intOf i).toNat)
 case atStart=>exact⟨0,Nat.zero_le _,rfl,Below.refl _ _⟩
 case round=>
  obtain⟨j,hj,rfl,hbw⟩:=hrel;have hjl:j<l.length:=O9;obtain⟨g,off,rfl,hg,hp⟩:=HA.out.resolve_left (by rintro rfl;simp at hjl);obtain⟨rv,tv,hoa⟩:=hp j _ (List.getElem?_eq_getElem hjl);obtain⟨Ar,cr,hrv,_⟩:=id hoa.refs;obtain⟨At,ct,htv,_⟩:=id hoa.tags;subst hrv;subst htv;obtain⟨c0,c1,c2,c3,c4,c5,_,_⟩:=hoa.below hg hbw.out;have hlj:l[j]? =some l[j]:=List.getElem?_eq_getElem hjl;have HLJ:=aa hlj;generalize l[j]=t at*
  have HX:=aa (Dl t (.slice Ar t.refs.length cr) (.slice At t.tags.length ct) o.id b wr (ai hbw.out HB.out));unfold eN at HX;have k0:(0:Int)≤j:=O9;have k1:(j:Int)<l.length:=O9;have HBW:=aa hbw.out;have HJ:=aa hj;by_cases e:j=k
  ·subst e;(have ht:t=o:=by have:=HLJ.out.symm.trans HK.out;exact Option.some.inj this);rw[decide_eq_true (congrArg Ob.id ht)]at HX;clear hbw hoa hp hlj hj ht;go_wp2_with fail;refine HX.out.mono ?_;rintro _ w2 ⟨rfl,h2⟩;have HW2:=aa (aq HBW.out h2);clear h2 HX HBW c0 c1 c2 c3 c4 c5;go_wp2_with fail;go_ret;exact⟨rfl,HW2.out⟩
  ·have ht:t.id≠o.id:=fun h=>e (xB HU.out HLJ.out HK.out h);rw[decide_eq_false ht]at HX;clear hbw hoa hp hlj hj ht;go_wp2_with fail;refine HX.out.mono ?_;rintro _ w2 ⟨rfl,h2⟩;have HW2:=aa (aq HBW.out h2);clear h2 HX HBW c0 c1 c2 c3 c4 c5;go_wp2_with fail;have hj:=HJ.out;refine⟨⟨j+1,O9,by go_num,HW2⟩,?_⟩;simp[intOf];omega
theorem FX(l:List Ob)(hu:uniq l)(k:Nat)(o:Ob)(hk:l[k]? =some o)(v:Value)(w:World)(hv:fm w v l):Calls Tryz.prog 49 #[.agg #[v],.string o.id] w fun e w'=>e= .returned (.int .i64 k)∧Below w.heap.size w w':=by
 obtain⟨w2,hw2⟩:∃z,w.alloc (.cells #[v] 24)=z:=⟨_,rfl⟩;obtain⟨w3,hw3⟩:∃z,w2.alloc (.cells #[.string o.id] 9)=z:=⟨_,rfl⟩;have hb2:Below w.heap.size w w2:=by rw[←hw2];exact(Below.refl _ _).alloc (Nat.le_refl _) _
 have hb3:Below w2.heap.size w2 w3:=by rw[←hw3];exact(Below.refl _ _).alloc (Nat.le_refl _) _
 have hx2:w2.heap[w.heap.size]? =some (.cells #[v] 24 (0,0)):=by rw[←hw2];exact heap_alloc_new _ _
 have hx3:w3.heap[w2.heap.size]? =some (.cells #[.string o.id] 9 (0,0)):=by rw[←hw3];exact heap_alloc_new _ _
 have c1:w3.cell? ⟨w.heap.size,0,none⟩=some v:=(cD (ai hb3 hx2)).1;have hs2:w2.heap.size=w.heap.size+1:=by rw[←hw2];simp
 rw[hs2]at hx3;have HX:=aa (Hh l hu k o hk v (w.heap.size+1) w3 (hv.below (aq hb2 hb3)).obs hv.len hx3);have HB:=aa (aq hb2 hb3);have HW2:=aa hw2;have HW3:=aa hw3;clear hb2 hb3 hx2 hx3 hv hw2 hw3 hu hk hs2;go_enter Tryz.func49,Tryz.ntmps49;go_wp2_with fail;rw[HW2.out,HW3.out];refine HX.out.mono ?_;rintro _ w4 ⟨rfl,h4⟩;have HB4:=aa (aq HB.out h4);clear h4 HX c1;go_wp2_with fail;go_ret;exact⟨rfl,HB4.out⟩
end Go.Proofs.YtfkgjbdeicggaaaGreat
namespace Go.Proofs.YtfkgjbdeicggaaaGreat
open Go.RowKit Go.Proofs.Px Go.Proofs.Pn Go.Proofs.Pm Go.Proofs.Pg Go.Proofs.Pto Go.Proofs.Pf
theorem xC(w:World)(r:Option Nat):w.grownBy w r:=⟨rfl,rfl,rfl,Nat.le_refl _,fun _ _ _=>rfl⟩
theorem nY{P:Program}{w:World}{ops:Array Oper}{rest:List Oper}{o:Oper}{a:Act}{Q:Exit→Act→World→Prop}(hgd:o.guard=none)(s x:Operand)(t:TypeId)
  (ho:o.op= .call { callee:=.builtin .append,args:=#[s,x],argTypes:=#[t,t]})
  (base:Nat)(e:TypeId)(i:TypeInfo)(z:Value)(bytes:Nat)(ht:P.underlying t=some (.slice e))(hi:P.info? e=some i)(hz:i.zero=some z)
  (hsize:i.size=1)(hby:i.bytes=bytes)(hzs:z.cells.size=1)
  (v:Value)(n:Nat)(xs:List Value)(hs:a.eval s=v)(hown:w.ownsRow base e 1 v n xs){B m:Nat}{u:Value}{news:List Value}(hx:a.eval x=u)(hsrc:w.ownsRow B e 1 u m news)(h1:∀u∈news,u.oneCell'=true)
  (h63:n+m≤maxLen)(hbytes:(n+m)*bytes≤140737488355328)(hbase:base≤w.heap.size)
  (h:∀v' w',w'.ownsRow base e 1 v' (n+m) (xs++news)→w.grownBy w' v.ownBlock→wpList P ops Q rest (a.put o.dst v') w'):wpList P ops Q (o::rest) a w:=by
 rcases hsrc.2 with⟨rfl,rfl⟩|⟨g,cap,cur,rfl,_⟩
 ·have hn:news=[]:=List.length_eq_zero_iff.1 (by rw[hsrc.1]);subst hn;refine wpList_append_own_none hgd s x t ho base e i 1 ht hi v n xs hs hown hx (h v w (by rw[List.append_nil];exact hown) (xC _ _))
 ·exact wpList_append_own w hgd s x t ho base e i z 1 bytes ht hi hz hsize hby hzs (by decide) v n xs hs hown ⟨g,0,none⟩ m cap news hx hsrc.1 (hsrc.cells rfl) h1 h63 hbytes hbase (fun v' w' h2 h3 _=>h v' w' h2 h3)
theorem Hi{W:World}{B:Nat}{v:Value}{xs:List (Value×List BA)}(h:W.ownsRow B 39 1 v xs.length (xs.map Prod.fst))(hs:∀x∈xs,ff W x.1 x.2):DO W v (xs.map Prod.snd):=by
 rcases h.2 with⟨rfl,h0⟩|⟨g,cap,cur,rfl,hg,hh,hc,_⟩
 ·have:xs=[]:=List.length_eq_zero_iff.1 h0;subst this;exact⟨none,0,rfl,Nat.le_refl _,.inl rfl⟩
 ·refine⟨some ⟨g,0,none⟩,cap,by rw[List.length_map],by rw[List.length_map];exact hc,.inr ⟨g,0,rfl,lt_of_block hh,fun i r hi=>?_⟩⟩;rw[List.getElem?_map]at hi;obtain⟨x,hx,rfl⟩:=Option.map_eq_some_iff.1 hi;rw[Nat.zero_add];exact⟨x.1,bg h i x.1 (by rw[List.getElem?_map,hx];rfl),hs x (List.mem_of_getElem? hx)⟩
theorem xD{l:List Ob}(hu:uniq l){s:BA}(h:isNode l s=true):∃(k:Nat)(o:Ob),l[k]? =some o∧o.id=s∧o.kind=1∧ar l s=⟨o.x,o.y⟩:=by
 unfold isNode at h;obtain⟨o,ho⟩:=Option.isSome_iff_exists.1 h;obtain⟨h1,h2⟩:=db ho;unfold kP at h1;rw[List.mem_filter,decide_eq_true_eq]at h1;obtain⟨k,hk,e⟩:=List.mem_iff_getElem.1 h1.1;refine⟨k,o,by rw[List.getElem?_eq_getElem hk,e],h2,h1.2,?_⟩;subst h2;unfold ar;rw[jz hu h1.1]
theorem Dm{l:List Ob}{z:eM}(hz:z∈an l):isNode l z.1=true:=by
 rcases ev.1 hz with g|g
 ·exact(dG g).1
 ·exact(dG g).2
theorem Hj{α:Type}(f:α→Int){L:List α}{k:Nat}{a:α}(h:L[k]? =some a):sl f (L.take (k+1))=sl f (L.take k)+f a:=by
 rw[dC h,fi];simp[sl]
theorem Bq{l:List Ob}(hm:aZ l=true){c:List BA}(hn:c≠[])(hl:c.length≤1000)(hc:∀t∈c,∃z∈an l,z.1=t): -8796093022208000≤tw (aw l c)∧tw (aw l c)≤8796093022208000:=by
 have h0:0<(bF l c).length:=by rw[eJ];exact List.length_pos_iff.2 hn
 have h:=E3 (nW hm hc) h0 (bF l c).length;rw[AX,eJ,←dB]at h;have:(c.length:Int)≤1000:=O9;omega
theorem IN{α:Type}(f:α→Int){L:List α}(h:∀a∈L,-8796093022208000≤f a∧f a≤8796093022208000): -((L.length:Int)*8796093022208000)≤sl f L∧sl f L≤(L.length:Int)*8796093022208000:=by
 induction L with
 |nil=>simp[sl]
 |cons a L ih=>
  obtain⟨i1,i2⟩:=ih fun b hb=>h b (List.mem_cons_of_mem _ hb);obtain⟨j1,j2⟩:=h a (List.mem_cons_self ..);rw[aV,List.length_cons];push_cast;omega
theorem zN(l:List Ob)(v:Value)(w:World)(hv:fm w v l)(hm:aZ l=true)(fo fh fa:Value)(ol:List BA)(hr:List (Value×List BA))(B:Nat)(ho:ff w fo ol)(hh:w.ownsRow B 39 1 fh hr.length (hr.map Prod.fst))(hs:∀x∈hr,ff w x.1 x.2)
  (hne:ol≠[])(hk:∀c∈ol::hr.map Prod.snd,c≠[]∧c.length≤1000∧∀t∈c,∃z∈an l,z.1=t)(hn:hr.length≤900):
  Calls Tryz.prog 12 #[.agg #[v],.agg #[fo,fh,fa]] w fun e w'=>e= .returned (.int .i64 (sl (fun c=>tw (aw l c)) (ol::hr.map Prod.snd)))∧Below w.heap.size w w':=by
 obtain⟨i0,hi0,hz0,hz1,hz2⟩:=aM qW;have HI:=aa hi0;have HZ0:=aa hz0;have HZ1:=aa hz1;have HZ2:=aa hz2;obtain⟨j0,hj0,hy0,hy1,hy2⟩:=aM lX;have HJ:=aa hj0;have HY0:=aa hy0;have HY1:=aa hy1;have HY2:=aa hy2;clear hi0 hz0 hz1 hz2 hj0 hy0 hy1 hy2;have hu:=bP hm;obtain⟨L,hL⟩:∃z,ol::hr.map Prod.snd=z:=⟨_,rfl⟩;have hLl:L.length=hr.length+1:=by rw[←hL];simp
 rw[hL]at hk ⊢;have HLE:=aa hL;have HLL:=aa hLl;clear hL hLl;obtain⟨w1,hw1⟩:∃z,w.alloc (.cells #[v] 24)=z:=⟨_,rfl⟩;obtain⟨w2,hw2⟩:∃z,w1.alloc (.cells #[fo,fh,fa] 42)=z:=⟨_,rfl⟩;have hb1:Below w.heap.size w w1:=by rw[←hw1];exact(Below.refl _ _).alloc (Nat.le_refl _) _
 have hb2:Below w1.heap.size w1 w2:=by rw[←hw2];exact(Below.refl _ _).alloc (Nat.le_refl _) _
 have hs1:w1.heap.size=w.heap.size+1:=by rw[←hw1];simp
 have hx1:w2.heap[w.heap.size]? =some (.cells #[v] 24 (0,0)):=ai hb2 (by rw[←hw1];exact heap_alloc_new _ _);have hx2:w2.heap[w.heap.size+1]? =some (.cells #[fo,fh,fa] 42 (0,0)):=by rw[←hs1,←hw2];exact heap_alloc_new _ _
 have HB2:=aa (aq hb1 hb2);have HV2:=aa (hv.below HB2.out);have HO2:=aa (ho.below HB2.out);have HH2:=aa (ao hh HB2.out);have HS2:Hid (∀x∈hr,ff w2 x.1 x.2):=aa (fun x hx=>(hs x hx).below HB2.out);obtain⟨Am,cm,rfl,_,ham⟩:=id hv.obs;have HAM:=aa ham;obtain⟨Ao,co,rfl,hco,hAo⟩:=id ho;obtain⟨Ah,ch,rfl⟩:=mR hh;have h0:0<ol.length:=List.length_pos_iff.2 hne;have hz0:((ol.length:Int) ==0)=false:=beq_eq_false_iff_ne.2 O9;have HX1:=aa hx1;have HX2:=aa hx2
 have HAV:=aa (iP l _ w2 HV2.out.obs HV2.out.len HV2.out.ok);rw[hm]at HAV;have HK:=aa hk;have HW1:=aa hw1;have HW2:=aa hw2;have c0:w2.cell? ⟨w.heap.size,0,none⟩=some (.slice Am l.length cm):=(cD hx1).1;have c1:w2.cell? ⟨w.heap.size+1,0,none⟩=some (.slice Ao ol.length co):=cell_of_row _ _ 0 _ _ _ hx2;clear hv ho hh hs hb1 hb2 hs1 hx1 hx2 hw1 hw2 hk hAo hco ham;go_enter Tryz.func12,Tryz.ntmps12;go_wp2_with fail;rw[HW1.out,HW2.out];refine HAV.out.mono ?_;rintro _ wv ⟨rfl,hbv⟩
 have HXV1:=aa (ai hbv HX1.out);have hxv2:=ai hbv HX2.out;obtain⟨wz,hwz⟩:∃z,wv.alloc (.cells #[.slice Ao ol.length co] 39)=z:=⟨_,rfl⟩;have hbz:Below wv.heap.size wv wz:=by rw[←hwz];exact(Below.refl _ _).alloc (Nat.le_refl _) _
 have c2:wv.cell? ⟨w.heap.size+1,0,none⟩=some (.slice Ao ol.length co):=cell_of_row _ _ 0 _ _ _ hxv2;have c3:wz.cell? ⟨w.heap.size+1,1,none⟩=some (.slice Ah hr.length ch):=cell_of_row _ _ 1 _ _ _ (ai hbz hxv2);have HBV:=aa (aq HB2.out hbv);have HBV2:=aa hbv;have HBZ:=aa hbz
 have HLIT:Hid (wz.ownsRow wv.heap.size 39 1 (.slice (some ⟨wv.heap.size,0,none⟩) 1 1) 1 [.slice Ao ol.length co]):=aa (by rw[←hwz];exact World.ownsRow_lit wv #[.slice Ao ol.length co] 1 (Nat.le_refl _) (by unfold maxLen;omega) (by simp));have HHZ:=aa (ao HH2.out (aq hbv hbz));have HBVZ:=aa (aq hbv hbz);clear hbv hbz hxv2 HAV c0 c1
 go_wp2_with (at_builtin;go_must (refine nY rfl _ _ 40 rfl wv.heap.size 39 j0 (.slice none 0 0) 24 Tryz.underlying40 HJ.out HY0.out HY1.out HY2.out rfl _ 1 [.slice Ao ol.length co] rfl HLIT.out rfl HHZ.out ?c1 ?c2 ?c3 ?c4 ?_))
 case c1=>intro u hu;obtain⟨x,hx,rfl⟩:=List.mem_map.1 hu;obtain⟨A,c,e,_⟩:=HS2.out x hx;rw[e];rfl
 case c2=>unfold maxLen;omega
 case c3=>omega
 case c4=>exact HBZ.out.size
 intro vr w5 hown5 hgrow5;have hb5:Below wv.heap.size wv w5:=ak HBZ.out hgrow5 (fun r e=>by cases e;exact Nat.le_refl _);have HG5:Hid (DO w5 vr (ol::hr.map Prod.snd)):=aa (by
  refine Hi (xs:=(.slice Ao ol.length co,ol)::hr) (B:=wv.heap.size) (by rw[List.length_cons,Nat.add_comm];exact hown5) (fun x hx=>?_);have hbx:Below w2.heap.size w2 w5:=aq HBV2.out hb5;rcases List.mem_cons.1 hx with rfl|hx
  ·exact HO2.out.below hbx
  ·exact(HS2.out x hx).below hbx)
 have HXM:=aa (ai hb5 HXV1.out);have HBW:=aa (aq HBV.out hb5);have HV5:=aa (HV2.out.below (aq HBV2.out hb5));rw[HLE.out]at HG5;have hLl:=HLL.out;obtain⟨Ar,cr,hvr,hcr,hAr⟩:=HG5.out;have HAR:=aa hAr;have hln:L.length≤901:=O9;rw[hvr]at hown5 ⊢;rw[show 1+hr.length=L.length from by omega]at hown5;obtain⟨n,hnn⟩:∃z,L.length=z:=⟨_,rfl⟩;have HNN:=aa hnn;rw[hnn]at hln hcr ⊢;clear hown5 hgrow5 hb5 HLIT HHZ HBVZ HBZ HG5 c2 c3 hwz hLl hvr hAr hnn HXV1;go_wp2_with fail
 go_loopw [5,28] (fun s i wr=>∃k:Nat,k≤n∧i= .int .i64 k∧s= .int .i64 (sl (fun c=>tw (aw l c)) (L.take k))∧Hid (Below w5.heap.size w5 wr)) (fun _ i _=>n-(intOf i).toNat)
 case atStart=>exact⟨0,Nat.zero_le _,rfl,rfl,Below.refl _ _⟩
 case round=>
  obtain⟨k,hk,rfl,rfl,hbw⟩:=hrel;by_cases hlt:k<n
  ·(have hkl:k<L.length:=by rw[HNN.out];exact hlt);obtain⟨gr,orr,rfl,hgr,hp⟩:=HAR.out.resolve_left (by rintro rfl;simp at hkl);obtain⟨iv,x1,hst⟩:=hp k _ (List.getElem?_eq_getElem hkl);have hck:L[k]? =some L[k]:=List.getElem?_eq_getElem hkl;obtain⟨hcne,hcl,hct⟩:=HK.out _ (List.getElem_mem hkl);replace x1:=(hbw.out.cell (p:=⟨gr,_,none⟩) hgr).trans x1;generalize L[k]=c at*;obtain⟨Ac,cc,rfl,hcc,hAc⟩:=id hst;obtain⟨gc,oc,rfl,hgc,hpc⟩:=hAc.resolve_left hcne;have HSUM:=aa (Hj (fun c=>tw (aw l c)) hck)
   obtain⟨t1,t2⟩:=Bq hm hcne hcl hct;obtain⟨u1,u2⟩:=IN (fun c=>tw (aw l c)) (L:=L.take k) (fun a ha=>by
    obtain⟨b1,b2,b3⟩:=HK.out a (List.mem_of_mem_take ha);exact Bq hm b1 b2 b3)
   (have hkk:((L.take k).length:Int)≤901:=by rw[List.length_take];omega);obtain⟨S,hS⟩:∃z,sl (fun c=>tw (aw l c)) (L.take k)=z:=⟨_,rfl⟩;rw[hS]at HSUM u1 u2 ⊢;have hnear:=nW hm hct;have h0c:0<c.length:=List.length_pos_iff.2 hcne;have HTW:=aa (fun(g c':Nat)(W:World)(hg:g<W.heap.size)(hp:eI W g (bF l c))=>lT g c' (bF l c) W (by rw[eJ];exact h0c) (by rw[eJ];exact hcl) hnear hg hp);rw[←dB]at HTW;have HPC:=aa hpc;have HGC:=aa hgc;have HCT:=aa hct;have HLT:=aa hlt;have HBR:=aa hbw.out;have k0:(0:Int)≤k:=O9
   have k1:(k:Int)<n:=O9;obtain⟨T,hT⟩:∃z,tw (aw l c)=z:=⟨_,rfl⟩;simp only[hT]at HSUM HTW t1 t2;have s1: -8000000000000000000≤S:=O9;have s2:S≤8000000000000000000:=O9;obtain⟨m,hmm⟩:∃z,c.length=z:=⟨_,rfl⟩;have HMM:=aa hmm;rw[hmm]at hcl h0c hcc x1;clear hbw hlt hp hst hAc hpc hgc hct hcne hck hnear u1 u2 hkk hS hT hmm;go_wp2_with fail;obtain⟨wr0,hwr0⟩:∃z,z=wr:=⟨_,rfl⟩;subst hwr0
   go_loopw [8,34] (fun u i wq=>∃(j:Nat)(A:Option Addr)(cap:Nat)(q:List Pt),j≤m∧i= .int .i64 j∧u= .slice A q.length cap∧q.length=j∧Hid (q=(bF l c).take j)∧Hid (xV wr0 q A cap wq)) (fun _ i _=>m-(intOf i).toNat)
   case atStart=>exact⟨0,none,0,[],Nat.zero_le _,rfl,rfl,rfl,rfl,⟨World.ownsRow_nil _ _ _ _,Below.refl _ _⟩⟩
   case round=>
    obtain⟨j,A,cap,q,hj,rfl,rfl,hql,hq,hpn⟩:=hrel;by_cases hjm:j<m
    ·(have hjc:j<c.length:=by rw[HMM.out];exact hjm);have hW:Below w5.heap.size w5 wr:=aq HBR.out hpn.out.below;have y1:=(hW.cell (p:=⟨gc,oc+j,none⟩) HGC.out).trans (HPC.out j _ (List.getElem?_eq_getElem hjc));obtain⟨z,hz,hzt⟩:=HCT.out _ (List.getElem_mem hjc);have hnd:=Dm hz;rw[hzt]at hnd;have hsn:q++[ar l c[j]]=(bF l c).take (j+1):=by
      unfold bF;rw[List.take_add_one,List.getElem?_map,List.getElem?_eq_getElem hjc,hq.out];rfl
     generalize c[j]=t at*;obtain⟨kx,ob,hkx,hid,hkd,hpt⟩:=xD hu hnd;rw[hpt]at hsn;subst hid;have HSN:=aa hsn;have y0:wr.cell? ⟨w.heap.size,0,none⟩=some (.slice Am l.length cm):=(cD (ai hW HXM.out)).1;have HFI:=aa (FX l hu kx ob hkx _ wr (HV5.out.below hW));have hkl:=(List.getElem?_eq_some_iff.1 hkx).1;obtain⟨gm,om,rfl,hgm,hpm⟩:=HAM.out.resolve_left (by rintro rfl;simp at hkl);obtain⟨rv,tv,hoa⟩:=hpm kx ob hkx;have HOA:=aa hoa;have HGM:=aa hgm;have HPN:=aa hpn.out;have HJM:=aa hjm;have HQL:=aa hql
     have HKD:=aa hkd;have hql1:q.length≤1000:=O9;have k2:(0:Int)≤j:=O9;have k3:(j:Int)<m:=O9;have k4:(0:Int)≤kx:=O9;have k5:(kx:Int)<l.length:=O9;have k6:¬((kx:Int)<0):=O9;have HWW:=aa hW;clear hjc hW hz hzt hnd hsn hpt hkx hkl hpm hoa hgm hpn hjm hq hql hkd;go_wp2_with fail;refine HFI.out.mono ?_;rintro _ w8 ⟨rfl,hb8⟩;have z0:w8.cell? ⟨w.heap.size,0,none⟩=some (.slice (some ⟨gm,om,none⟩) l.length cm):=(cD (ai hb8 (ai HWW.out HXM.out))).1
     obtain⟨d0,d1,d2,d3,d4,d5,_,_⟩:=HOA.out.below HGM.out (aq HBW.out (aq HWW.out hb8));rw[HKD.out]at d1;have hbp:Below w8.heap.size w8 (w8.alloc (.cells #[.int .i64 ob.x,.int .i64 ob.y] 44)):=(Below.refl _ _).alloc (Nat.le_refl _) _;have HPN8:=aa (HPN.out.lift (aq hb8 hbp));clear HFI hb8 hbp HPN y0 y1
     go_wp2_with (at_builtin;go_must (refine wpList_append_own _ rfl _ _ 49 rfl wr0.heap.size 44 i0 (.agg #[.int .i64 0,.int .i64 0]) 2 16 Tryz.underlying49 HI.out HZ0.out HZ1.out HZ2.out rfl (by decide) (.slice A q.length cap) q.length (cN q) rfl HPN8.out.own ⟨w8.heap.size,0,none⟩ 1 1 [.int .i64 ob.x,.int .i64 ob.y] rfl rfl ?c1 ?c2 ?c3 ?c4 ?c5 ?_))
     case c1=>exact lj w8 [.int .i64 ob.x,.int .i64 ob.y] 44
     case c2=>intro u hu;simp at hu;rcases hu with rfl|rfl<;>rfl
     case c3=>unfold maxLen;omega
     case c4=>omega
     case c5=>exact HPN8.out.below.size
     intro v' w9 hown' hgrow _;have hm9:∃A' c',v'=Value.slice A' (q++[(⟨ob.x,ob.y⟩:Pt)]).length c'∧xV wr0 (q++[⟨ob.x,ob.y⟩]) A' c' w9:=by
      obtain⟨A',c',rfl⟩:=mM hown';refine⟨A',c',by simp,?_,HPN8.out.below.grown hgrow HPN8.out.below.size (fun b hb=>(HPN8.out.own.lt b hb).1)⟩;rw[List.length_append,lh];exact hown'
     obtain⟨A',c',rfl,hm9⟩:=hm9;have HM9:=aa hm9;clear hm9 hown' hgrow z0 d0 d1 d2 d3 d4 d5;go_wp2_with fail;have hjm:=HJM.out;refine⟨⟨j+1,A',c',q++[(⟨ob.x,ob.y⟩:Pt)],O9,by go_num,rfl,by simp[HQL.out],HSN,HM9⟩,?_⟩;simp[intOf];omega
    ·(obtain rfl:j=m:=by omega);(have hqq:q=bF l c:=by rw[hq.out,List.take_of_length_le (by rw[eJ,HMM.out];exact Nat.le_refl _)]);subst hqq;(have hlen:0<(bF l c).length:=by rw[eJ,HMM.out];exact h0c);obtain⟨gp,rfl,_,hgp,hpa⟩:=hpn.out.pts hlen;have HTC:=aa (HTW.out gp cap wr hgp hpa);have HBQ:=aa (aq HBR.out hpn.out.below);clear hq hpn hql hlen hgp hpa;go_wp2_with fail;refine HTC.out.mono ?_;rintro _ w8 ⟨rfl,hb8⟩;have HB8:=aa (aq HBQ.out hb8);clear hb8 HTC;go_wp2_with fail;have hlt:=HLT.out
     refine⟨⟨k+1,O9,by go_num,by rw[HSUM.out],HB8⟩,?_⟩;simp[intOf];omega
  ·(obtain rfl:k=n:=by omega);have hall:L.take k=L:=List.take_of_length_le (by rw[HNN.out];exact Nat.le_refl _);have HAL:=aa hall;have HBF:=aa (aq HBW.out hbw.out);clear hall hbw;go_wp2_with fail;go_ret;exact⟨by rw[HAL.out];rfl,HBF.out⟩
