/-
  The example of the faces.
-/
import Derived.Test.YtfkgjbdeicggaaaGreatZs
set_option maxHeartbeats 32000000
set_option maxRecDepth 100000
namespace Go.Proofs.YtfkgjbdeicggaaaGreat
open Go.RowKit Go.Proofs.Px Go.Proofs.Pn Go.Proofs.Pm Go.Proofs.Pg Go.Proofs.Pto Go.Proofs.Pf
attribute [local go_sem] Oper.semAt_some
theorem F6:∀o∈aX,BW o:=by
 intro o ho;simp only[aX,List.mem_cons,List.not_mem_nil,or_false]at ho;unfold BW;rcases ho with rfl|rfl|rfl|rfl|rfl|rfl<;>simp[iN]<;>decide
theorem mT:dZ aX:=by
 refine⟨by decide,fun o ho=>?_⟩;simp only[aX,List.mem_cons,List.not_mem_nil,or_false]at ho;rcases ho with rfl|rfl|rfl|rfl|rfl|rfl<;>simp[iN]<;>decide
theorem F7{W:World}{g:Nat}{t:TypeId}{L:List ByteArray}(h:W.heap[g]? =some (.cells (H8 L).toArray t (0,0))):ff W (.slice (some ⟨g,0,none⟩) L.length L.length) L:=by
 refine⟨_,_,rfl,Nat.le_refl _,.inr ⟨g,0,rfl,lt_of_block h,fun i s hi=>?_⟩⟩;rw[Nat.zero_add,cell_of_row W g i _ _ _ h];simp[H8,hi]
theorem mU(w:World):Calls Tryz.prog 26 #[] w fun e w'=>∃v,e= .returned (.agg #[v])∧fm w' v aX∧Below w.heap.size w w':=by
 obtain⟨wa,hwa⟩:∃z,w.alloc (.cells #[.slice none 0 0] 24)=z:=⟨_,rfl⟩;have hb0:Below w.heap.size w wa:=by rw[←hwa];exact(Below.refl _ _).alloc (Nat.le_refl _) _
 have HBA:=aa hb0;clear hb0;have hb0:Below wa.heap.size wa wa:=Below.refl _ _;have hx0:wa.heap[w.heap.size]? =some (.cells #[.slice none 0 0] 24 (0,0)):=by rw[←hwa];exact heap_alloc_new _ _
 obtain⟨b0,hb00⟩:∃z,w.heap.size=z:=⟨_,rfl⟩;have HLE:=aa (Nat.le_of_eq hb00);have HBB:=aa hb00;have HX0:=aa hx0;have hwas:wa.heap.size=b0+1:=by rw[←hwa,←hb00];simp
 have HWA:=aa hwa;rw[hb00]at HX0;clear hwa hx0 hb00;go_enter Tryz.func26,Tryz.ntmps26;go_wp2_with fail;rw[HWA.out,HBB.out];obtain⟨u0,hu0⟩:∃u,wa.alloc (.cells #[.string ⟨#[107]⟩,.string ⟨#[108]⟩,.string ⟨#[109]⟩,.string ⟨#[110]⟩] 9)=u:=⟨_,rfl⟩;have su0:u0.heap[wa.heap.size]? =some (.cells #[.string ⟨#[107]⟩,.string ⟨#[108]⟩,.string ⟨#[109]⟩,.string ⟨#[110]⟩] 9 (0,0)):=by rw[←hu0];exact heap_alloc_new _ _
 have ku0:b0<b0+1:=O9;have cu0:Below wa.heap.size wa u0:=by rw[←hu0];exact(Below.refl _ _).alloc (Nat.le_refl _) _
 rw[hwas]at su0;rw[hu0];obtain⟨qu0,hqu0⟩:∃q,b0+1=q:=⟨_,rfl⟩;rw[hqu0]at su0 ku0 ⊢;clear hwas;have hbu0:=aq hb0 cu0;clear hu0 hqu0 cu0 hb0;refine(qQ 3 ⟨#[97]⟩ (some ⟨qu0,0,none⟩) 4 4 u0).mono ?_;rintro _ w1 ⟨rfl,bw1⟩;have hbw1:=aq hbu0 bw1;have su0:=ai bw1 su0;clear bw1 hbu0;go_wp2_with fail;refine(nJ ⟨#[107]⟩ 0 0 w1).mono ?_;rintro _ w2 ⟨rfl,bw2⟩;have hbw2:=aq hbw1 bw2;have su0:=ai bw2 su0;clear bw2 hbw1;go_wp2_with fail;refine(nJ ⟨#[108]⟩ 4 0 w2).mono ?_;rintro _ w3 ⟨rfl,bw3⟩
 have hbw3:=aq hbw2 bw3;have su0:=ai bw3 su0;clear bw3 hbw2;go_wp2_with fail;refine(nJ ⟨#[109]⟩ 4 4 w3).mono ?_;rintro _ w4 ⟨rfl,bw4⟩;have hbw4:=aq hbw3 bw4;have su0:=ai bw4 su0;clear bw4 hbw3;go_wp2_with fail;refine(nJ ⟨#[110]⟩ 0 4 w4).mono ?_;rintro _ w5 ⟨rfl,bw5⟩;have hbw5:=aq hbw4 bw5;have su0:=ai bw5 su0;clear bw5 hbw4;go_wp2_with fail;obtain⟨u1,hu1⟩:∃u,w5.alloc (.cells #[.string ⟨#[107]⟩,.string ⟨#[109]⟩] 9)=u:=⟨_,rfl⟩
 have su1:u1.heap[w5.heap.size]? =some (.cells #[.string ⟨#[107]⟩,.string ⟨#[109]⟩] 9 (0,0)):=by rw[←hu1];exact heap_alloc_new _ _
 have ku1:b0<w5.heap.size:=by have:=lt_of_block HX0.out;have:=hbw5.size;omega
 have cu1:Below w5.heap.size w5 u1:=by rw[←hu1];exact(Below.refl _ _).alloc (Nat.le_refl _) _
 rw[hu1];obtain⟨qu1,hqu1⟩:∃q,w5.heap.size=q:=⟨_,rfl⟩;rw[hqu1]at su1 ku1 ⊢;have hbu1:=aq hbw5 cu1;have su0:=ai cu1 su0;clear hu1 hqu1 cu1 hbw5;refine(qQ 2 ⟨#[119]⟩ (some ⟨qu1,0,none⟩) 2 2 u1).mono ?_;rintro _ w6 ⟨rfl,bw6⟩;have hbw6:=aq hbu1 bw6;have su0:=ai bw6 su0;have su1:=ai bw6 su1;clear bw6 hbu1
 obtain⟨wz,hwz⟩:∃z,w6.alloc (.cells #[.string ⟨#[97]⟩,.int .i64 3,.int .i64 0,.int .i64 0,.slice (some ⟨qu0,0,none⟩) 4 4,.slice none 0 0,.string ⟨#[107]⟩,.int .i64 1,.int .i64 0,.int .i64 0,.slice none 0 0,.slice none 0 0,.string ⟨#[108]⟩,.int .i64 1,.int .i64 4,.int .i64 0,.slice none 0 0,.slice none 0 0,.string ⟨#[109]⟩,.int .i64 1,.int .i64 4,.int .i64 4,.slice none 0 0,.slice none 0 0,.string ⟨#[110]⟩,.int .i64 1,.int .i64 0,.int .i64 4,.slice none 0 0,.slice none 0 0,.string ⟨#[119]⟩,.int .i64 2,.int .i64 0,.int .i64 0,.slice (some ⟨qu1,0,none⟩) 2 2,.slice none 0 0] 47)=z:=⟨_,rfl⟩
 have hz:wz.heap[w6.heap.size]? =some (.cells #[.string ⟨#[97]⟩,.int .i64 3,.int .i64 0,.int .i64 0,.slice (some ⟨qu0,0,none⟩) 4 4,.slice none 0 0,.string ⟨#[107]⟩,.int .i64 1,.int .i64 0,.int .i64 0,.slice none 0 0,.slice none 0 0,.string ⟨#[108]⟩,.int .i64 1,.int .i64 4,.int .i64 0,.slice none 0 0,.slice none 0 0,.string ⟨#[109]⟩,.int .i64 1,.int .i64 4,.int .i64 4,.slice none 0 0,.slice none 0 0,.string ⟨#[110]⟩,.int .i64 1,.int .i64 0,.int .i64 4,.slice none 0 0,.slice none 0 0,.string ⟨#[119]⟩,.int .i64 2,.int .i64 0,.int .i64 0,.slice (some ⟨qu1,0,none⟩) 2 2,.slice none 0 0] 47 (0,0)):=by rw[←hwz];exact heap_alloc_new _ _
 have cz:Below w6.heap.size w6 wz:=by rw[←hwz];exact(Below.refl _ _).alloc (Nat.le_refl _) _
 have hbz:=aq hbw6 cz;have su0:=ai cz su0;have su1:=ai cz su1;have hxz:=ai hbz HX0.out;have hlt:b0<wa.heap.size:=lt_of_block HX0.out;obtain⟨c0,f0⟩:=cD hxz;have hcz0:=hxz;have HKS:=aa (And.intro ku0 ku1);have HSU:=aa (And.intro su0 su1);have HZZ:=aa hz;have HLZ:Hid (b0<w6.heap.size):=aa (by have:=hbw6.size;omega);have HBZ:=aa (aq HBA.out hbz);clear hz cz hbz hxz hlt hbw6 su0 su1 ku0 ku1;go_wp2_with fail;obtain⟨wq,hwq⟩:∃z,wz.setCell ⟨b0,0,none⟩ (.slice (some ⟨w6.heap.size,0,none⟩) 6 6)=z:=⟨_,rfl⟩
 have hzq:wq.heap[w6.heap.size]? =some (.cells #[.string ⟨#[97]⟩,.int .i64 3,.int .i64 0,.int .i64 0,.slice (some ⟨qu0,0,none⟩) 4 4,.slice none 0 0,.string ⟨#[107]⟩,.int .i64 1,.int .i64 0,.int .i64 0,.slice none 0 0,.slice none 0 0,.string ⟨#[108]⟩,.int .i64 1,.int .i64 4,.int .i64 0,.slice none 0 0,.slice none 0 0,.string ⟨#[109]⟩,.int .i64 1,.int .i64 4,.int .i64 4,.slice none 0 0,.slice none 0 0,.string ⟨#[110]⟩,.int .i64 1,.int .i64 0,.int .i64 4,.slice none 0 0,.slice none 0 0,.string ⟨#[119]⟩,.int .i64 2,.int .i64 0,.int .i64 0,.slice (some ⟨qu1,0,none⟩) 2 2,.slice none 0 0] 47 (0,0)):=by
  rw[←hwq,Below.heap_setCell _ _ _ _ (by have:=HLZ.out;show w6.heap.size≠b0;omega)];exact HZZ.out
 have hs0:wq.heap[qu0]? =some (.cells #[.string ⟨#[107]⟩,.string ⟨#[108]⟩,.string ⟨#[109]⟩,.string ⟨#[110]⟩] 9 (0,0)):=by
  rw[←hwq,Below.heap_setCell _ _ _ _ (by have:=HKS.out.1;show qu0≠b0;omega)];exact HSU.out.1
 have hs1:wq.heap[qu1]? =some (.cells #[.string ⟨#[107]⟩,.string ⟨#[109]⟩] 9 (0,0)):=by
  rw[←hwq,Below.heap_setCell _ _ _ _ (by have:=HKS.out.2;show qu1≠b0;omega)];exact HSU.out.2
 have su0:=F7 (L:=[⟨#[107]⟩,⟨#[108]⟩,⟨#[109]⟩,⟨#[110]⟩]) hs0;have su1:=F7 (L:=[⟨#[107]⟩,⟨#[109]⟩]) hs1;have HMZ:Hid (fm wq (.slice (some ⟨w6.heap.size,0,none⟩) 6 6) aX):=aa (by
  refine⟨⟨_,_,rfl,Nat.le_refl _,.inr ⟨w6.heap.size,0,rfl,lt_of_block hzq,fun i ob hi=>?_⟩⟩,by decide,F6⟩
  match i,hi with
  |0,hi=>cases hi;exact⟨.slice (some ⟨qu0,0,none⟩) 4 4,.slice none 0 0,⟨cell_of_row _ _ 0 _ _ _ hzq,cell_of_row _ _ 1 _ _ _ hzq,cell_of_row _ _ 2 _ _ _ hzq,cell_of_row _ _ 3 _ _ _ hzq,cell_of_row _ _ 4 _ _ _ hzq,cell_of_row _ _ 5 _ _ _ hzq,su0,⟨_,_,rfl,.inl rfl⟩⟩⟩
  |1,hi=>cases hi;exact⟨.slice none 0 0,.slice none 0 0,⟨cell_of_row _ _ 6 _ _ _ hzq,cell_of_row _ _ 7 _ _ _ hzq,cell_of_row _ _ 8 _ _ _ hzq,cell_of_row _ _ 9 _ _ _ hzq,cell_of_row _ _ 10 _ _ _ hzq,cell_of_row _ _ 11 _ _ _ hzq,⟨_,_,rfl,Nat.le_refl _,.inl rfl⟩,⟨_,_,rfl,.inl rfl⟩⟩⟩
  |2,hi=>cases hi;exact⟨.slice none 0 0,.slice none 0 0,⟨cell_of_row _ _ 12 _ _ _ hzq,cell_of_row _ _ 13 _ _ _ hzq,cell_of_row _ _ 14 _ _ _ hzq,cell_of_row _ _ 15 _ _ _ hzq,cell_of_row _ _ 16 _ _ _ hzq,cell_of_row _ _ 17 _ _ _ hzq,⟨_,_,rfl,Nat.le_refl _,.inl rfl⟩,⟨_,_,rfl,.inl rfl⟩⟩⟩
  |3,hi=>cases hi;exact⟨.slice none 0 0,.slice none 0 0,⟨cell_of_row _ _ 18 _ _ _ hzq,cell_of_row _ _ 19 _ _ _ hzq,cell_of_row _ _ 20 _ _ _ hzq,cell_of_row _ _ 21 _ _ _ hzq,cell_of_row _ _ 22 _ _ _ hzq,cell_of_row _ _ 23 _ _ _ hzq,⟨_,_,rfl,Nat.le_refl _,.inl rfl⟩,⟨_,_,rfl,.inl rfl⟩⟩⟩
  |4,hi=>cases hi;exact⟨.slice none 0 0,.slice none 0 0,⟨cell_of_row _ _ 24 _ _ _ hzq,cell_of_row _ _ 25 _ _ _ hzq,cell_of_row _ _ 26 _ _ _ hzq,cell_of_row _ _ 27 _ _ _ hzq,cell_of_row _ _ 28 _ _ _ hzq,cell_of_row _ _ 29 _ _ _ hzq,⟨_,_,rfl,Nat.le_refl _,.inl rfl⟩,⟨_,_,rfl,.inl rfl⟩⟩⟩
  |5,hi=>cases hi;exact⟨.slice (some ⟨qu1,0,none⟩) 2 2,.slice none 0 0,⟨cell_of_row _ _ 30 _ _ _ hzq,cell_of_row _ _ 31 _ _ _ hzq,cell_of_row _ _ 32 _ _ _ hzq,cell_of_row _ _ 33 _ _ _ hzq,cell_of_row _ _ 34 _ _ _ hzq,cell_of_row _ _ 35 _ _ _ hzq,su1,⟨_,_,rfl,.inl rfl⟩⟩⟩
  |(i+6),hi=>simp[aX]at hi)
 have HBQ:Hid (Below w.heap.size w wq):=aa (by rw[←hwq];exact HBZ.out.setCell HLE.out _);have hcq:wq.cell? ⟨b0,0,none⟩=some (.slice (some ⟨w6.heap.size,0,none⟩) 6 6):=by rw[←hwq];exact(cD (A6 hcz0)).1
 clear hzq hs0 hs1 su0 su1;rw[hwq];exact bodyPost_ret (v:=.agg #[.slice (some ⟨w6.heap.size,0,none⟩) 6 6]) (by simp[results,Tryz.results26,go_sem,hcq]) rfl ⟨_,rfl,HMZ.out,HBQ.out⟩
theorem xN(v fh fa:Value)(A:Option Addr)(c:Nat)(w:World):Calls Tryz.prog 12 #[.agg #[v],.agg #[.slice A 0 c,fh,fa]] w fun e w'=>e= .returned (.int .i64 0)∧Below w.heap.size w w':=by
 obtain⟨w1,hw1⟩:∃z,w.alloc (.cells #[v] 24)=z:=⟨_,rfl⟩;obtain⟨w2,hw2⟩:∃z,w1.alloc (.cells #[.slice A 0 c,fh,fa] 42)=z:=⟨_,rfl⟩;have hb1:Below w.heap.size w w1:=by rw[←hw1];exact(Below.refl _ _).alloc (Nat.le_refl _) _
 have hb2:Below w1.heap.size w1 w2:=by rw[←hw2];exact(Below.refl _ _).alloc (Nat.le_refl _) _
 have hs1:w1.heap.size=w.heap.size+1:=by rw[←hw1];simp
 have hx2:w2.heap[w.heap.size+1]? =some (.cells #[.slice A 0 c,fh,fa] 42 (0,0)):=by rw[←hs1,←hw2];exact heap_alloc_new _ _
 have c1:w2.cell? ⟨w.heap.size+1,0,none⟩=some (.slice A 0 c):=cell_of_row _ _ 0 _ _ _ hx2;have HB:=aa (aq hb1 hb2);have HW1:=aa hw1;have HW2:=aa hw2;clear hb1 hb2 hs1 hx2 hw1 hw2;go_enter Tryz.func12,Tryz.ntmps12;go_wp2_with fail;go_ret;exact⟨rfl,by rw[HW1.out,HW2.out];exact HB.out⟩
def Jr(l:List Ob)(outs rims:List (List BA))(at':List BA→Nat):Nat→Int
 |0=>0
 |i+1=>yG l outs rims at' i
theorem rq{l:List Ob}{nb:BA→List BA}{P:BA→BA}{outs rims:List (List BA)}{at':List BA→Nat}{fs:List Fa}{B:Nat}{vf:Value}{W:World}(hm:aZ l=true)(hsm:dZ l)(hc:¬dA l)
  (hfac:gV l nb P outs rims)(hfar:tg B fs vf W)(hfs:DQ W l outs (fun _=>l) (fun k=>rims.filter fun R=>decide (at' R=k)) fs){k:Nat}{f:Fa}(hf:fs[k]? =some f)(v:Value)(w:World)(hv:fm w v l)(hb:Below W.heap.size W w):
  Calls Tryz.prog 12 #[.agg #[v],.agg #[f.o,f.h,f.a]] w fun e w'=>e= .returned (.int .i64 (Jr l outs rims at' k))∧Below w.heap.size w w':=by
 obtain⟨r1,r2,r3,r4,r5⟩:=hfs.2 k f hf;have hfm:=List.mem_of_getElem? hf
 match k,hf with
 |0,hf=>
  have r1':f.ol=[]:=r1;rw[r1']at r4;obtain⟨A,c,e,_⟩:=r4;rw[e];exact xN v f.h f.a A c w
 |i+1,hf=>
  have hi:i<outs.length:=by
   have:=(List.getElem?_eq_some_iff.1 hf).1;rw[hfs.1]at this;omega
  have r1':f.ol=outs.getD i []:=r1;have r3':f.hr.map Prod.snd=rims.filter fun R=>decide (at' R=i+1):=r3;have hgd:outs.getD i []=outs[i]:=by rw[List.getD_eq_getElem?_getD,List.getElem?_eq_getElem hi];rfl
  have hmem:∀c∈f.ol::f.hr.map Prod.snd,c∈outs++rims:=fun c hcm=>by
   rcases List.mem_cons.1 hcm with rfl|hcm
   ·rw[r1',hgd];exact List.mem_append_left _ (List.getElem_mem hi)
   ·rw[r3']at hcm;exact List.mem_append_right _ ((List.mem_filter.1 hcm).1)
  obtain⟨g1,g2⟩:=uG hfac.cyc (nz hm hc);have hst:=lZ hsm;rw[List.length_append]at g1;have hne:f.ol≠[]:=(hfac.cyc.cyc _ (hmem _ (List.mem_cons_self ..))).ne;refine(zN l v w hv hm f.o f.h f.a f.ol f.hr B (r4.below hb) (ao (hfar.hol f hfm) hb) (fun x hx=>(r5 x hx).below hb) hne (fun c hcm=>?_) ?_).mono ?_
  ·have hcy:=hfac.cyc.cyc c (hmem c hcm);exact⟨hcy.ne,Nat.le_trans (g2 c (hmem c hcm)) O9,fun t ht=>Bo hcy ht⟩
  ·have e:=congrArg List.length r3';rw[List.length_map]at e;rw[e];exact Nat.le_trans (List.length_filter_le _ _) O9
  ·rintro e w' ⟨rfl,h⟩;refine⟨?_,h⟩;rw[r3',r1',aV];rfl
theorem zS:cG aX ⟨tx 97,3,0,0,iN,[]⟩=true∧∀o∈aX.drop 1,cG aX o=false:=by decide+kernel
theorem xO{c:List BA}(h:fk aX iN (aS c 0,aS c 1)=true):mQ aX aX c=[tx 97]:=by
 obtain⟨h1,h2⟩:=zS;have e:aX=⟨tx 97,3,0,0,iN,[]⟩::aX.drop 1:=rfl;have hd:(aX.drop 1).filter (fun o=>cG aX o&&fk aX o.refs (aS c 0,aS c 1))=[]:=by
  rw[List.filter_eq_nil_iff];intro o ho;rw[h2 o ho];simp
 have:aX.filter (fun o=>cG aX o&&fk aX o.refs (aS c 0,aS c 1))=[⟨tx 97,3,0,0,iN,[]⟩]:=by
  conv=>lhs;rw[e]
  rw[List.filter_cons,←e,hd,h1];rw[if_pos (by rw[Bool.true_and];exact h)]
 unfold mQ;rw[this];rfl
theorem xP(w:World):Calls Tryz.prog 5 #[] w fun e w'=>e= .returned (.bool true)∧Below w.heap.size w w':=by
 have hmx:Tryz.prog.follows .mixedOrders=true:=K9;go_enter Tryz.func5,Tryz.ntmps5;go_wp2_with fail;refine(mU w).mono ?_;rintro _ w1 ⟨v1,rfl,hmi,hb1⟩;have HB1:=aa hb1;have HBU:=aa (tn aX v1 w1 hmi nF mT pW);clear hmi hb1;go_wp2_with fail;refine HBU.out.mono ?_;rintro _ w2 ⟨vf,rfl,nb,P,outs,rims,at',fs,B,hfac,hat,hfar,hfs,hb2⟩;have HB2:=aa (aq HB1.out hb2);obtain⟨hol,hcv,htw⟩:=yI hfac;have hfl:fs.length=3:=by rw[hfs.1,hol]
 have hown:=hfar.own;rw[hfl]at hown;obtain⟨g,cf,rfl⟩:=fv hown O9;obtain⟨f0,hf0⟩:∃f,fs[0]? =some f:=⟨_,List.getElem?_eq_getElem O9⟩;obtain⟨f1,hf1⟩:∃f,fs[1]? =some f:=⟨_,List.getElem?_eq_getElem O9⟩;obtain⟨f2,hf2⟩:∃f,fs[2]? =some f:=⟨_,List.getElem?_eq_getElem O9⟩;obtain⟨a0,_,_⟩:=rh fs 0 f0 hf0;obtain⟨b0,b1,b2⟩:=rh fs 1 f1 hf1;obtain⟨d0,d1,d2⟩:=rh fs 2 f2 hf2;have HT1:=aa (fun v w hv hb=>rq nF mT pW hfac hfar hfs hf1 v w hv hb);have HT2:=aa (fun v w hv hb=>rq nF mT pW hfac hfar hfs hf2 v w hv hb)
 have e1:Jr aX outs rims at' 1=16:=htw at' (fun R hR=>(hat R hR).1) 0 O9;have e2:Jr aX outs rims at' 2=16:=htw at' (fun R hR=>(hat R hR).1) 1 O9;rw[e1]at HT1;rw[e2]at HT2;obtain⟨p1,_,_,p4,_⟩:=hfs.2 0 f0 hf0;obtain⟨_,q2,_⟩:=hfs.2 1 f1 hf1;obtain⟨_,s2,_⟩:=hfs.2 2 f2 hf2;have ha1:f1.al.length=1:=by
  rw[q2];show(mQ aX aX (outs.getD 0 [])).length=1;have hi:0<outs.length:=O9;rw[List.getD_eq_getElem?_getD,List.getElem?_eq_getElem hi,Option.getD_some,xO (hcv _ (List.getElem_mem hi))];rfl
 have ha2:f2.al.length=1:=by
  rw[s2];show(mQ aX aX (outs.getD 1 [])).length=1;have hi:1<outs.length:=O9;rw[List.getD_eq_getElem?_getD,List.getElem?_eq_getElem hi,Option.getD_some,xO (hcv _ (List.getElem_mem hi))];rfl
 have p1':f0.ol=[]:=p1;rw[p1']at p4;obtain⟨A0,c0,g0,_⟩:=p4;obtain⟨A1,c1,g1⟩:=mR (hfar.are f1 (List.mem_of_getElem? hf1));obtain⟨A2,c2,g2⟩:=mR (hfar.are f2 (List.mem_of_getElem? hf2));rw[ha1]at g1;rw[ha2]at g2;rw[g0]at a0;rw[g1]at b2;rw[g2]at d2;rw[show f1.a= .slice A1 1 c1 from g1]at HT1;rw[show f2.a= .slice A2 1 c2 from g2]at HT2;generalize f1.o=o1 at*;generalize f1.h=h1 at*;generalize f2.o=o2 at*;generalize f2.h=h2 at*;have m0:=bg hown 0 _ a0;have m1:=bg hown 3 _ b0;have m2:=bg hown 4 _ b1
 have m3:=bg hown 5 _ b2;have m4:=bg hown 6 _ d0;have m5:=bg hown 7 _ d1;have m6:=bg hown 8 _ d2;have hg:g<w2.heap.size:=(aj hown (b:=g) rfl).2
 have HMC:Hid (∀W:World,Below w2.heap.size w2 W→W.cell? ⟨g,0,none⟩=some (.slice A0 0 c0)∧W.cell? ⟨g,3,none⟩=some o1∧W.cell? ⟨g,4,none⟩=some h1∧W.cell? ⟨g,5,none⟩=some (.slice A1 1 c1)∧W.cell? ⟨g,6,none⟩=some o2∧W.cell? ⟨g,7,none⟩=some h2∧W.cell? ⟨g,8,none⟩=some (.slice A2 1 c2)):=aa (fun W hW=>⟨(hW.cell (p:=⟨g,_,none⟩) hg).trans m0,(hW.cell (p:=⟨g,_,none⟩) hg).trans m1,(hW.cell (p:=⟨g,_,none⟩) hg).trans m2,(hW.cell (p:=⟨g,_,none⟩) hg).trans m3,(hW.cell (p:=⟨g,_,none⟩) hg).trans m4,(hW.cell (p:=⟨g,_,none⟩) hg).trans m5,(hW.cell (p:=⟨g,_,none⟩) hg).trans m6⟩)
 have HFL:=aa hfl;clear HBU hfac hat hfar hfs hb2 hol hcv htw hown hf0 hf1 hf2 a0 b0 b1 b2 d0 d1 d2 e1 e2 p1 p1' q2 s2 ha1 ha2 g0 g1 g2 m0 m1 m2 m3 m4 m5 m6 hg;clear hfl;go_upto_region 4 with(fail);have HB0:Hid (Below w2.heap.size w2 w2.drew):=aa (aA _);refine aU (fun W=>Below w2.heap.size w2 W) 38 hmx ?_;simp only[List.size_toArray,List.length_cons,List.length_nil,Nat.reduceAdd];refine wk 0 (.slice (some ⟨g,0,none⟩) 3 cf) rfl (fun w hm=>rfl) ?_;refine wkg 1 (.pointer (some ⟨g,0,none⟩)) rfl ?_
 refine wkg 2 (.pointer (some ⟨g,0,none⟩)) rfl ?_;refine wk 3 (.slice A0 0 c0) rfl (fun w hm=>by obtain⟨m0,m1,m2,m3,m4,m5,m6⟩:=HMC.out w hm;clear m1 m2 m3 m4 m5 m6 hm;go_simp) ?_;refine wkg 4 (.int .i64 0) rfl ?_;refine wkg 5 (.bool true) rfl ?_;refine wkg 6 (.bool true) rfl ?_;refine wkg 7 (.slice (some ⟨g,0,none⟩) 3 cf) rfl ?_;refine wkg 8 (.pointer (some ⟨g,3,none⟩)) rfl ?_;refine wkg 9 (.pointer (some ⟨g,5,none⟩)) rfl ?_
 refine wk 10 (.slice A1 1 c1) rfl (fun w hm=>by obtain⟨m0,m1,m2,m3,m4,m5,m6⟩:=HMC.out w hm;clear m0 m1 m2 m4 m5 m6 hm;go_simp) ?_;refine wkg 11 (.int .i64 1) rfl ?_;refine wkg 12 (.bool true) rfl ?_;refine wkg 13 (.bool true) rfl ?_;refine wkg 14 (.bool true) rfl ?_;refine wkg 15 (.slice (some ⟨g,0,none⟩) 3 cf) rfl ?_;refine wkg 16 (.pointer (some ⟨g,6,none⟩)) rfl ?_;refine wkg 17 (.pointer (some ⟨g,8,none⟩)) rfl ?_
 refine wk 18 (.slice A2 1 c2) rfl (fun w hm=>by obtain⟨m0,m1,m2,m3,m4,m5,m6⟩:=HMC.out w hm;clear m0 m1 m2 m3 m4 m5 hm;go_simp) ?_;refine wkg 19 (.int .i64 1) rfl ?_;refine wkg 20 (.bool true) rfl ?_;refine wkg 21 (.bool true) rfl ?_;refine wkg 22 (.bool true) rfl ?_;refine wkg 24 (.slice (some ⟨g,0,none⟩) 3 cf) rfl ?_;refine wkg 25 (.pointer (some ⟨g,3,none⟩)) rfl ?_
 refine wk 26 (.agg #[o1,h1,.slice A1 1 c1]) rfl (fun w hm=>by obtain⟨m0,m1,m2,m3,m4,m5,m6⟩:=HMC.out w hm;clear m0 m4 m5 m6 hm;go_simp) ?_;refine wr1 23 HB0.out rfl (fun K' hK=>?_);go_simp;refine(mU _).mono ?_;rintro _ w5 ⟨v5,rfl,hmi5,b5⟩;have HV5:=aa hmi5;have HB5:=aa (aq HB0.out b5);clear hmi5 b5;refine hK _ _ ?_;refine wr1 27 HB5.out rfl (fun K' hK=>?_);go_simp;refine(HT1.out v5 w5 HV5.out HB5.out).mono ?_;rintro _ w6 ⟨rfl,b6⟩;have HB6:=aa (aq HB5.out b6);clear b6;refine hK _ _ ?_
 refine wkg 28 (.bool true) rfl ?_;refine wkg 29 (.bool true) rfl ?_;refine wkg 30 (.bool true) rfl ?_;refine wkg 32 (.slice (some ⟨g,0,none⟩) 3 cf) rfl ?_;refine wkg 33 (.pointer (some ⟨g,6,none⟩)) rfl ?_;refine wk 34 (.agg #[o2,h2,.slice A2 1 c2]) rfl (fun w hm=>by obtain⟨m0,m1,m2,m3,m4,m5,m6⟩:=HMC.out w hm;clear m0 m1 m2 m3 hm;go_simp) ?_;refine wr1 31 HB6.out rfl (fun K' hK=>?_);go_simp;refine(mU _).mono ?_;rintro _ w7 ⟨v7,rfl,hmi7,b7⟩;have HV7:=aa hmi7;have HB7:=aa (aq HB6.out b7);clear hmi7 b7
 refine hK _ _ ?_;refine wr1 35 HB7.out rfl (fun K' hK=>?_);go_simp;refine(HT2.out v7 w7 HV7.out HB7.out).mono ?_;rintro _ w8 ⟨rfl,b8⟩;have HB8:=aa (aq HB7.out b8);clear b8;refine hK _ _ ?_;refine wkg 36 (.bool true) rfl ?_;refine wkg 37 (.bool true) rfl ?_;refine wr1 38 HB8.out rfl (fun K' hK=>?_);go_simp;refine hK _ _ ?_;refine wdM ?_;go_wp2_with fail;go_ret;exact⟨rfl,aq HB2.out HB8.out⟩
theorem uK:∀(x y:List UInt8),(Lib.compareBytes x y<0↔Go.Op.bytesLess x y=true)∧(Lib.compareBytes x y=0↔x=y)
 | [],[]=>by simp[Lib.compareBytes,Go.Op.bytesLess]
 | [],_::_=>by simp[Lib.compareBytes,Go.Op.bytesLess]
 |_::_,[]=>by simp[Lib.compareBytes,Go.Op.bytesLess]
 |a::x,b::y=>by
  obtain⟨h1,h2⟩:=uK x y;unfold Lib.compareBytes Go.Op.bytesLess;by_cases c1:a<b
  ·rw[if_pos c1];refine⟨by simp[c1],⟨fun e=>O9,fun e=>?_⟩⟩;injection e with e1 e2;rw[e1]at c1;exact absurd c1 (UInt8.lt_irrefl _)
  ·rw[if_neg c1];by_cases c2:b<a
   ·rw[if_pos c2];(have hab:a≠b:=fun e=>by rw[e]at c2;exact UInt8.lt_irrefl _ c2);refine⟨⟨fun h=>O9,fun h=>?_⟩,⟨fun e=>O9,fun e=>?_⟩⟩
    ·simp[c1,hab]at h
    ·injection e with e1 e2;exact absurd e1 hab
   ·rw[if_neg c2];have hab:a=b:=UInt8.le_antisymm (UInt8.not_lt.1 c2) (UInt8.not_lt.1 c1);subst hab;refine⟨by rw[h1];simp[c1],by rw[h2];simp⟩
theorem od(a:BA):a.data.toList=a.toList:=(ByteArray.toList_eq a).symm
def xQ(a b:BA):Int:=Lib.compareBytes a.data.toList b.data.toList
theorem Ho(a b:BA):xQ a b<0↔fK a b=true:=by
 unfold xQ fK;rw[od,od];exact(uK _ _).1
theorem Bu(a b:BA):xQ a b=0↔a=b:=by
 unfold xQ;rw[od,od,(uK _ _).2];exact⟨fun h=>toList_inj.1 h,fun h=>by rw[h]⟩
theorem Bv(o:Ob)(rv tv:Value)(s:BA)(w:World):Calls Tryz.prog 111 #[.agg (eN o rv tv),.string s] w fun e w'=>e= .returned (.int .i64 (xQ o.id s))∧Below w.heap.size w w':=by
 obtain⟨w2,hw2⟩:∃z,w.alloc (.cells (eN o rv tv) 47)=z:=⟨_,rfl⟩;have hbe:Below w.heap.size w w2:=by rw[←hw2];exact(Below.refl _ _).alloc (Nat.le_refl _) _
 have hy:w2.heap[w.heap.size]? =some (.cells (eN o rv tv) 47 (0,0)):=by rw[←hw2];exact heap_alloc_new _ _
 unfold eN at hw2 hy ⊢;have c2:w2.cell? ⟨w.heap.size,0,none⟩=some (.string o.id):=cell_of_row _ _ 0 _ _ _ hy;have HB:=aa hbe;clear hbe hy;go_enter Tryz.func111,Tryz.ntmps111;go_wp2_with fail;refine(Tryz.strings_Compare o.id s _).mono ?_;rintro _ w3 ⟨rfl,rfl⟩;go_wp2_with fail;go_ret;exact⟨rfl,HB.out⟩
theorem zT(l:List Ob)(hm:aZ l=true)(hl:l.length≤20)(k:Nat)(o:Ob)(hk:l[k]? =some o)(v:Value)(w:World)(hv:wJ w v l):Calls Tryz.prog 110 #[v,.string o.id,.func (.func 111) #[] #[]] w fun e w'=>e= .returned (.tuple #[.int .i64 k,.bool true])∧Below w.heap.size w w':=by
 have hkl:=(List.getElem?_eq_some_iff.1 hk).1;have HK:=aa hk;obtain⟨A,c,rfl,_,hA⟩:=hv;obtain⟨g,off,rfl,hg,hp⟩:=hA.resolve_left (by rintro rfl;simp at hkl);have HP:=aa hp;have HM:=aa hm;have key:∀(j:Nat)(t:Ob),l[j]? =some t→(xQ t.id o.id<0↔j<k)∧(xQ t.id o.id=0↔j=k):=fun j t hj=>by
  rw[Ho,Bu];have h1:j<k→fK t.id o.id=true:=fun h=>eV hm h hj hk;have h2:k<j→fK o.id t.id=true:=fun h=>eV hm h hk hj;refine⟨⟨fun h=>?_,h1⟩,⟨fun h=>xB (bP hm) hj hk h,fun h=>?_⟩⟩
  ·rcases Nat.lt_trichotomy j k with e|e|e
   ·exact e
   ·subst e;rw[hk]at hj;obtain rfl:=Option.some.inj hj;rw[bj]at h;cases h
   ·have:=dg h (h2 e);rw[bj]at this;cases this
  ·subst h;rw[hk]at hj;rw[Option.some.inj hj]
 have KEY:=aa key;clear hA hk hp hm key;go_enter Tryz.func110,Tryz.ntmps110;go_wp2_with fail;go_loopw [9,10] (fun i j wr=>∃(a b:Nat),i= .int .i64 a∧j= .int .i64 b∧a≤k∧k≤b∧b≤l.length∧Hid (Below w.heap.size w wr)) (fun i j _=>(intOf j).toNat-(intOf i).toNat)
 case atStart=>exact⟨0,l.length,rfl,rfl,Nat.zero_le _,O9,Nat.le_refl _,Below.refl _ _⟩
 case round=>
  obtain⟨a,b,rfl,rfl,hak,hkb,hbl,hbw⟩:=hrel;by_cases hlt:a<b
  ·(have i0:(a:Int)<b:=by omega);have hh:(a+b)/2<l.length:=O9;have hj:l[(a+b)/2]? =some l[(a+b)/2]:=List.getElem?_eq_getElem hh;obtain⟨rv,tv,hoa⟩:=HP.out _ _ hj;obtain⟨Ar,cr,hrv,_⟩:=id hoa.refs;obtain⟨At,ct,htv,_⟩:=id hoa.tags;subst hrv;subst htv;obtain⟨d0,d1,d2,d3,d4,d5,_,_⟩:=hoa.below hg hbw.out;obtain⟨y1,y2⟩:=KEY.out _ _ hj;generalize l[(a+b)/2]=t at*;have HX:=aa (Bv t (.slice Ar t.refs.length cr) (.slice At t.tags.length ct) o.id wr);unfold eN at HX;obtain⟨R,hR⟩:∃z,xQ t.id o.id=z:=⟨_,rfl⟩
   rw[hR]at HX y1 y2;have a20:(a:Int)≤20:=O9;have b20:(b:Int)≤20:=O9;have HBW:=aa hbw.out;by_cases c1:(a+b)/2<k
   ·have hneg:=y1.2 c1;have HN:=aa (And.intro hak (And.intro hkb hbl));have HLT:=aa (And.intro hlt c1);clear y1 y2 hR hj hoa hbw hak hkb hbl c1 hlt;go_wp2_with fail;refine HX.out.mono ?_;rintro _ w7 ⟨rfl,h7⟩;have HB7:=aa (aq HBW.out h7);clear h7 d0 d1 d2 d3 d4 d5;go_wp2_with fail;obtain⟨n1,n2,n3⟩:=HN.out;obtain⟨n4,n5⟩:=HLT.out;refine⟨⟨(a+b)/2+1,b,?_,rfl,O9,n2,n3,HB7⟩,?_⟩
    ·push_cast;rfl
    ·simp only[intOf];omega
   ·have hneg:¬R<0:=fun h=>c1 (y1.1 h);have HN:=aa (And.intro hak (And.intro hkb hbl));have HLT:=aa (And.intro hlt c1);clear y1 y2 hR hj hoa hbw hak hkb hbl c1 hlt;go_wp2_with fail;refine HX.out.mono ?_;rintro _ w7 ⟨rfl,h7⟩;have HB7:=aa (aq HBW.out h7);clear h7 d0 d1 d2 d3 d4 d5;go_wp2_with fail;obtain⟨n1,n2,n3⟩:=HN.out;obtain⟨n4,n5⟩:=HLT.out;refine⟨⟨a,(a+b)/2,rfl,?_,n1,O9,O9,HB7⟩,?_⟩
    ·push_cast;rfl
    ·simp only[intOf];omega
  ·(have e1:a=k:=by omega);have e2:b=k:=O9;subst e1;subst e2;obtain⟨rv,tv,hoa⟩:=HP.out _ _ HK.out;obtain⟨Ar,cr,hrv,_⟩:=id hoa.refs;obtain⟨At,ct,htv,_⟩:=id hoa.tags;subst hrv;subst htv;obtain⟨d0,d1,d2,d3,d4,d5,_,_⟩:=hoa.below hg hbw.out;have HX:=aa (Bv o (.slice Ar o.refs.length cr) (.slice At o.tags.length ct) o.id wr);rw[(Bu o.id o.id).2 rfl]at HX;unfold eN at HX;have k0:(b:Int)<l.length:=O9;have k1:(0:Int)≤b:=O9;have HBW:=aa hbw.out;clear hoa hbw hlt;go_wp2_with fail;refine HX.out.mono ?_
   rintro _ w7 ⟨rfl,h7⟩;have HB7:=aa (aq HBW.out h7);clear h7 d0 d1 d2 d3 d4 d5;go_wp2_with fail;go_ret2;exact⟨rfl,HB7.out⟩
theorem F8(l:List Ob)(hm:aZ l=true)(hl:l.length≤20)(k:Nat)(o:Ob)(hk:l[k]? =some o)(v:Value)(w:World)(hv:fm w v l):Calls Tryz.prog 54 #[.agg #[v],.string o.id] w fun e w'=>e= .returned (.tuple #[.int .i64 k,.bool true])∧Below w.heap.size w w':=by
 obtain⟨w2,hw2⟩:∃z,w.alloc (.cells #[v] 24)=z:=⟨_,rfl⟩;have hb2:Below w.heap.size w w2:=by rw[←hw2];exact(Below.refl _ _).alloc (Nat.le_refl _) _
 have hx2:w2.heap[w.heap.size]? =some (.cells #[v] 24 (0,0)):=by rw[←hw2];exact heap_alloc_new _ _
 have c1:w2.cell? ⟨w.heap.size,0,none⟩=some v:=(cD hx2).1;have HX:=aa (zT l hm hl k o hk v w2 (hv.below hb2).obs);have HB:=aa hb2;have HW2:=aa hw2;clear hb2 hx2 hv hw2 hm hk;go_enter Tryz.func54,Tryz.ntmps54;go_wp2_with fail;rw[HW2.out];refine HX.out.mono ?_;rintro _ w4 ⟨rfl,h4⟩;have HB4:=aa (aq HB.out h4);clear h4 HX c1;go_wp2_with fail;go_ret2;exact⟨rfl,HB4.out⟩
theorem zU(l:List Ob)(hm:aZ l=true)(v:Value)(w:World)(hv:fm w v l):Calls Tryz.prog 109 #[.agg #[v]] w fun e w'=>e= .returned (.bool false)∧Below w.heap.size w w':=by
 obtain⟨w2,hw2⟩:∃z,w.alloc (.cells #[v] 24)=z:=⟨_,rfl⟩;have hb2:Below w.heap.size w w2:=by rw[←hw2];exact(Below.refl _ _).alloc (Nat.le_refl _) _
 have hx2:w2.heap[w.heap.size]? =some (.cells #[v] 24 (0,0)):=by rw[←hw2];exact heap_alloc_new _ _
 have c1:w2.cell? ⟨w.heap.size,0,none⟩=some v:=(cD hx2).1;have HX:=aa (iP l v w2 (hv.below hb2).obs hv.len hv.ok);rw[hm]at HX;have HB:=aa hb2;have HW2:=aa hw2;clear hb2 hx2 hv hw2 hm;go_enter Tryz.func109,Tryz.ntmps109;go_wp2_with fail;rw[HW2.out];refine HX.out.mono ?_;rintro _ w4 ⟨rfl,h4⟩;have HB4:=aa (aq HB.out h4);clear h4 HX c1;go_wp2_with fail;go_ret;exact⟨rfl,HB4.out⟩
theorem zV(l:List Ob)(hm:aZ l=true)(v:Value)(g:Nat)(w:World)(hv:fm w v l)(hg:w.cell? ⟨g,0,none⟩=some v)(hl:g<w.heap.size):Calls Tryz.prog 154 #[.slice (some ⟨g,0,none⟩) 1 1,.func (.func 109) #[] #[]] w fun e w'=>e= .returned (.int .i64 (-1))∧Below w.heap.size w w':=by
 have HX:=aa (fun W (h:Below w.heap.size w W)=>zU l hm v W (hv.below h));have HG:=aa hg;have HL:=aa hl;clear hv hm hg hl;go_enter Tryz.func154,Tryz.ntmps154;go_wp2_with fail;go_loopw [8] (fun i wr=>(i= .int .i64 0∨i= .int .i64 1)∧Hid (Below w.heap.size w wr)) (fun i _=>1-(intOf i).toNat)
 case atStart=>exact⟨.inl rfl,Below.refl _ _⟩
 case round=>
  obtain⟨rfl|rfl,hb⟩:=hrel
  ·have c1:wr.cell? ⟨g,0,none⟩=some v:=(hb.out.cell (p:=⟨g,_,none⟩) HL.out).trans HG.out;have HX2:=aa (HX.out wr hb.out);have HB:=aa hb.out;clear hb;go_wp2_with fail;refine HX2.out.mono ?_;rintro _ w4 ⟨rfl,h4⟩;have HB4:=aa (aq HB.out h4);clear h4 HX2 c1;go_wp2_with fail;exact⟨⟨.inr rfl,HB4⟩,by simp[intOf]⟩
  ·have HB:=aa hb.out;clear hb;go_wp2_with fail;go_ret;exact⟨rfl,HB.out⟩
theorem rG(l:List Ob)(hm:aZ l=true)(v:Value)(g:Nat)(w:World)(hv:fm w v l)(hg:w.cell? ⟨g,0,none⟩=some v)(hl:g<w.heap.size):Calls Tryz.prog 108 #[.slice (some ⟨g,0,none⟩) 1 1,.func (.func 109) #[] #[]] w fun e w'=>e= .returned (.bool false)∧Below w.heap.size w w':=by
 have HX:=aa (zV l hm v g w hv hg hl);clear hv hm hg hl;go_enter Tryz.func108,Tryz.ntmps108;go_wp2_with fail;refine HX.out.mono ?_;rintro _ w4 ⟨rfl,h4⟩;have HB4:=aa h4;clear h4 HX;go_wp2_with fail;go_ret;exact⟨rfl,HB4.out⟩
theorem zW(l:List Ob)(hm:aZ l=true)(v:Value)(g:Nat)(w:World)(hv:fm w v l)(hg:w.cell? ⟨g,0,none⟩=some v)(hl:g<w.heap.size):Calls Tryz.prog 53 #[.slice (some ⟨g,0,none⟩) 1 1] w fun e w'=>e= .returned (.bool true)∧Below w.heap.size w w':=by
 have HX:=aa (rG l hm v g w hv hg hl);clear hv hm hg hl;go_enter Tryz.func53,Tryz.ntmps53;go_wp2_with fail;refine HX.out.mono ?_;rintro _ w4 ⟨rfl,h4⟩;have HB4:=aa h4;clear h4 HX;go_wp2_with fail;go_ret;exact⟨rfl,HB4.out⟩
theorem xR(l:List Ob)(hm:aZ l=true)(hl:l.length≤20)(k:Nat)(ob:Ob)(hk:l[k]? =some ob)(hk3:ob.kind=3)(hn:ob.refs.length≤1000)(hr:∀t∈ob.refs,isNode l t=true)(v:Value)(w:World)(hv:fm w v l):Calls Tryz.prog 14 #[.agg #[v],.string ob.id] w fun e w'=>∃vp,e= .returned (.tuple #[vp,.int .i64 0])∧∃A c,vp= .slice A (bF l ob.refs).length c∧(∃w0,xV w0 (bF l ob.refs) A c w')∧Below w.heap.size w w':=by
 obtain⟨i0,hi0,hz0,hz1,hz2⟩:=aM qW;have HI:=aa hi0;have HZ0:=aa hz0;have HZ1:=aa hz1;have HZ2:=aa hz2;clear hi0 hz0 hz1 hz2;have hu:=bP hm;obtain⟨w1,hw1⟩:∃z,w.alloc (.cells #[v] 24)=z:=⟨_,rfl⟩;have hb1:Below w.heap.size w w1:=by rw[←hw1];exact(Below.refl _ _).alloc (Nat.le_refl _) _
 have hx1:w1.heap[w.heap.size]? =some (.cells #[v] 24 (0,0)):=by rw[←hw1];exact heap_alloc_new _ _
 obtain⟨w2,hw2⟩:∃z,w1.alloc (.cells #[v] 24)=z:=⟨_,rfl⟩;have hb2:Below w1.heap.size w1 w2:=by rw[←hw2];exact(Below.refl _ _).alloc (Nat.le_refl _) _
 have hs1:w1.heap.size=w.heap.size+1:=by rw[←hw1];simp
 have hx2:w2.heap[w.heap.size+1]? =some (.cells #[v] 24 (0,0)):=by rw[←hs1,←hw2];exact heap_alloc_new _ _
 have HV2:=aa (hv.below (aq hb1 hb2));have HB2:=aa (aq hb1 hb2);have HX1:=aa (ai hb2 hx1);have c0:w1.cell? ⟨w.heap.size,0,none⟩=some v:=(cD hx1).1;have HVS:=aa (zW l hm v (w.heap.size+1) w2 HV2.out (cD hx2).1 (lt_of_block hx2));have HW1:=aa hw1;have HW2:=aa hw2;have HK:=aa hk;have HR:=aa hr;obtain⟨Am,cm,rfl,_,ham⟩:=id HV2.out.obs;have hkl:=(List.getElem?_eq_some_iff.1 hk).1;obtain⟨gm,om,rfl,hgm,hpm⟩:=ham.resolve_left (by rintro rfl;simp at hkl);have HPM:=aa hpm;have HGM:=aa hgm
 clear hv hb1 hx1 hw1 hw2 hb2 hs1 hx2 ham hpm hgm hk hr;go_enter Tryz.func14,Tryz.ntmps14;go_wp2_with fail;rw[HW1.out,HW2.out];refine HVS.out.mono ?_;rintro _ w3 ⟨rfl,hb3⟩;have c3:w3.cell? ⟨w.heap.size,0,none⟩=some (.slice (some ⟨gm,om,none⟩) l.length cm):=(cD (ai hb3 HX1.out)).1;have HB3:=aa hb3;have HAT:=aa (F8 l hm hl k ob HK.out _ w3 (HV2.out.below hb3));clear hb3 c0 HVS;go_wp2_with fail;refine HAT.out.mono ?_;rintro _ w4 ⟨rfl,hb4⟩;have HB4:=aa (aq HB3.out hb4)
 have c4:w4.cell? ⟨w.heap.size,0,none⟩=some (.slice (some ⟨gm,om,none⟩) l.length cm):=(cD (ai hb4 (ai HB3.out HX1.out))).1;obtain⟨rv,tv,hoa⟩:=HPM.out k ob HK.out;obtain⟨Ar,cr,hrv,_⟩:=id hoa.refs;obtain⟨At,ct,htv,_⟩:=id hoa.tags;subst hrv;subst htv;obtain⟨d0,d1,d2,d3,d4,d5,_,_⟩:=hoa.below HGM.out HB4.out;rw[hk3]at d1;obtain⟨wo,hwo⟩:∃z,w4.alloc (.cells #[.string ob.id,.int .i64 3,.int .i64 ob.x,.int .i64 ob.y,.slice Ar ob.refs.length cr,.slice At ob.tags.length ct] 47)=z:=⟨_,rfl⟩
 have hbo:Below w4.heap.size w4 wo:=by rw[←hwo];exact(Below.refl _ _).alloc (Nat.le_refl _) _
 have hxo:wo.heap[w4.heap.size]? =some (.cells #[.string ob.id,.int .i64 3,.int .i64 ob.x,.int .i64 ob.y,.slice Ar ob.refs.length cr,.slice At ob.tags.length ct] 47 (0,0)):=by rw[←hwo];exact heap_alloc_new _ _
 obtain⟨e0,e1,e2,e3,e4,e5⟩:=eE hxo;have HBO:=aa (aq HB4.out hbo);have HRF:=aa (hoa.refs.below HBO.out);have HXO:=aa (ai hbo (ai hb4 (ai HB3.out HX1.out)));have HVO:=aa (HV2.out.below HBO.out);have k0:(0:Int)≤k:=O9;have k1:(k:Int)<l.length:=O9;clear hb4 hbo hxo hoa c3 HAT HB3 HX1;go_wp2_with fail;obtain⟨m,hmm⟩:∃z,ob.refs.length=z:=⟨_,rfl⟩;have HMM:=aa hmm;have HRE:=aa (show bF l ob.refs=bF l ob.refs from rfl);rw[hmm]at hn ⊢;clear hmm d0 d1 d2 d3 d4 d5 e0 e1 e2 e3 e4 e5 c4 k0 k1;have HWO:=aa hwo
 clear hwo;go_loopw [9,44] (fun u i wr=>∃(j:Nat)(A:Option Addr)(cap:Nat)(q:List Pt),j≤m∧i= .int .i64 j∧u= .slice A q.length cap∧q.length=j∧Hid (q=(bF l ob.refs).take j)∧Hid (xV wo q A cap wr)) (fun _ i _=>m-(intOf i).toNat)
 case atStart=>exact⟨0,none,0,[],Nat.zero_le _,rfl,rfl,rfl,rfl,⟨World.ownsRow_nil _ _ _ _,Below.refl _ _⟩⟩
 case round=>
  obtain⟨j,A,cap,q,hj,rfl,rfl,hql,hq,hpn⟩:=hrel;by_cases hjm:j<m
  ·(have hjc:j<ob.refs.length:=by rw[HMM.out];exact hjm);have hW:Below wo.heap.size wo wr:=hpn.out.below;obtain⟨A',c',e,_,hA'⟩:=HRF.out;rw[Value.slice.injEq]at e;obtain⟨ea,eb,ec⟩:=e;subst ea;clear eb ec;obtain⟨gc,oc,rfl,hgc,hpc⟩:=hA'.resolve_left (by intro e;rw[e]at hjc;simp at hjc);have y1:=(hW.cell (p:=⟨gc,oc+j,none⟩) hgc).trans (hpc j _ (List.getElem?_eq_getElem hjc));have hnd:=HR.out _ (List.getElem_mem hjc);have hsn:q++[ar l ob.refs[j]]=(bF l ob.refs).take (j+1):=by
    unfold bF;rw[List.take_add_one,List.getElem?_map,List.getElem?_eq_getElem hjc,hq.out];rfl
   generalize ob.refs[j]=t at*;obtain⟨kx,o2,hkx,hid,hkd,hpt⟩:=xD hu hnd;rw[hpt]at hsn;subst hid;have HSN:=aa hsn;have y0:wr.cell? ⟨w.heap.size,0,none⟩=some (.slice (some ⟨gm,om,none⟩) l.length cm):=(cD (ai hW HXO.out)).1;have HFI:=aa (F8 l hm hl kx o2 hkx _ wr (HVO.out.below hW));have hkl2:=(List.getElem?_eq_some_iff.1 hkx).1;obtain⟨rv,tv,hoa⟩:=HPM.out kx o2 hkx;have HOA:=aa hoa;have HPN:=aa hpn.out;have HJM:=aa hjm;have HQL:=aa hql;have HKD:=aa hkd;have hql1:q.length≤1000:=O9;have k2:(0:Int)≤j:=O9
   have k3:(j:Int)<m:=O9;have k4:(0:Int)≤kx:=O9;have k5:(kx:Int)<l.length:=O9;have HWW:=aa hW;clear hjc hW hnd hsn hpt hkx hkl2 hpc hoa hgc hpn hjm hq hql hkd hA';go_wp2_with fail;refine HFI.out.mono ?_;rintro _ w8 ⟨rfl,hb8⟩;have z0:w8.cell? ⟨w.heap.size,0,none⟩=some (.slice (some ⟨gm,om,none⟩) l.length cm):=(cD (ai hb8 (ai HWW.out HXO.out))).1;obtain⟨d0,d1,d2,d3,d4,d5,_,_⟩:=HOA.out.below HGM.out (aq HBO.out (aq HWW.out hb8));rw[HKD.out]at d1
   have hbp:Below w8.heap.size w8 (w8.alloc (.cells #[.int .i64 o2.x,.int .i64 o2.y] 44)):=(Below.refl _ _).alloc (Nat.le_refl _) _;have HPN8:=aa (HPN.out.lift (aq hb8 hbp));clear HFI hb8 hbp HPN y0 y1
   go_wp2_with (at_builtin;go_must (refine wpList_append_own _ rfl _ _ 49 rfl wo.heap.size 44 i0 (.agg #[.int .i64 0,.int .i64 0]) 2 16 Tryz.underlying49 HI.out HZ0.out HZ1.out HZ2.out rfl (by decide) (.slice A q.length cap) q.length (cN q) rfl HPN8.out.own ⟨w8.heap.size,0,none⟩ 1 1 [.int .i64 o2.x,.int .i64 o2.y] rfl rfl ?c1 ?c2 ?c3 ?c4 ?c5 ?_))
   case c1=>exact lj w8 [.int .i64 o2.x,.int .i64 o2.y] 44
   case c2=>intro u hu;simp at hu;rcases hu with rfl|rfl<;>rfl
   case c3=>unfold maxLen;omega
   case c4=>omega
   case c5=>exact HPN8.out.below.size
   intro v' w9 hown' hgrow _;have hm9:∃A' c',v'=Value.slice A' (q++[(⟨o2.x,o2.y⟩:Pt)]).length c'∧xV wo (q++[⟨o2.x,o2.y⟩]) A' c' w9:=by
    obtain⟨A',c',rfl⟩:=mM hown';refine⟨A',c',by simp,?_,HPN8.out.below.grown hgrow HPN8.out.below.size (fun b hb=>(HPN8.out.own.lt b hb).1)⟩;rw[List.length_append,lh];exact hown'
   obtain⟨A',c',rfl,hm9⟩:=hm9;have HM9:=aa hm9;clear hm9 hown' hgrow z0 d0 d1 d2 d3 d4 d5;go_wp2_with fail;have hjm:=HJM.out;refine⟨⟨j+1,A',c',q++[(⟨o2.x,o2.y⟩:Pt)],O9,by go_num,rfl,by simp[HQL.out],HSN,HM9⟩,?_⟩;simp[intOf];omega
  ·(have hjm2:j=m:=by omega);subst hjm2;(have hqq:q=bF l ob.refs:=by rw[hq.out,List.take_of_length_le (by rw[eJ,HMM.out];exact Nat.le_refl _)]);subst hqq;have HPN:=aa hpn.out;clear hq hpn hql hjm;go_wp2_with fail;go_ret2;exact⟨_,rfl,A,cap,rfl,⟨wo,HPN.out⟩,aq HB2.out (aq HBO.out HPN.out.below)⟩
