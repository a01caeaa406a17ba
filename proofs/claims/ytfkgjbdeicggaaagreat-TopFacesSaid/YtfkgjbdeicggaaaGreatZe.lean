/-
  A border is joined to the plane.
-/
import Derived.Test.YtfkgjbdeicggaaaGreatZd
set_option maxHeartbeats 16000000
set_option maxRecDepth 100000
namespace Go.Proofs.YtfkgjbdeicggaaaGreat
open Go.RowKit Go.Proofs.Px Go.Proofs.Pn Go.Proofs.Pm Go.Proofs.Pg Go.Proofs.Pto Go.Proofs.Pf
attribute [local go_sem] Oper.semAt_some
theorem Bk:WideMaps.KeyLaw Tryz.prog 9:=WideMaps.string_law Tryz.underlying9
theorem jM(w:World):(zeroValue 198).run Tryz.prog w= .ok (.pointer none) w:=K9
theorem FC{P:Program}{k:TypeId}{K:Type}[DecidableEq K]{B:dS P k K}{w:World}{b:Nat}{l:List (K×Value)}(h:dV B w b l){x:K}{v:Value}(hx:aJ l x=some v):B.ok x:=by
 obtain⟨p,hp,e⟩:=eT.1 (show(aJ l x).isSome=true by rw[hx];rfl);rw[←e];exact h.okk p hp
theorem aY{W:World}{x:Nat}{a b c d:Value}{t:TypeId}(h:W.heap[x]? =some (.cells #[a,b,c,d] t (0,0))):W.cell? ⟨x,0,none⟩=some a∧W.cell? ⟨x,1,none⟩=some b∧W.cell? ⟨x,2,none⟩=some c∧W.cell? ⟨x,3,none⟩=some d:=⟨cell_of_row _ _ 0 _ _ _ h,cell_of_row _ _ 1 _ _ _ h,cell_of_row _ _ 2 _ _ _ h,cell_of_row _ _ 3 _ _ _ h⟩
theorem ki{W:World}{b x:Nat}{cs:Array Value}{t:TypeId}(hb:∃es c,W.heap[b]? =some (.map es c))(hx:W.heap[x]? =some (.cells cs t (0,0))):x≠b:=fun e=>by
 obtain⟨es,c,hb⟩:=hb;rw[e,hb]at hx;cases hx
theorem fQ{W W':World}{r:Option Nat}{x:Nat}{o:Obj}(hg:W.grownBy W' r)(hx:W.heap[x]? =some o)(hne:r≠some x):W'.heap[x]? =some o:=(hg.block x (lt_of_block hx) (fun e=>hne e.symm)).trans hx
theorem FD(l:List Ob)(n0 x ba bn bp:Nat)(sv:Value)(D E:List BA)(G:BA→List BA)(P:BA→BA)(la lp:List (BA×Value))(rows:List (Rw BA))(q:BA→Nat)(w:World)
  (h:ke l n0 x ba bn bp sv D E G P la lp rows q w)(hn0:n0≤w.heap.size)(a b:BA)(hab:a≠b)(hka:a.size≤maxLen)(hkb:b.size≤maxLen)
  (h1:la.length≤1000)(h2:rows.length≤1000)(h3:lp.length≤1000)(hga:(G a).length≤1000)(hgb:(G b).length≤1000)(hP:∀v,v∉E→P v=v):
  Calls Tryz.prog 93 #[.pointer (some ⟨x,0,none⟩),.string a,.string b,.agg #[.int .i64 (ar l a).x,.int .i64 (ar l a).y,.int .i64 (ar l b).x,.int .i64 (ar l b).y]] w fun e w'=>e= .returned (.tuple #[])∧∃(E':List BA)(la' lp':List (BA×Value))(rows':List (Rw BA))(q':BA→Nat),
   (∀v,v∈E'↔v∈E∨v=a∨v=b)∧la'.length≤la.length+2∧rows'.length≤rows.length+2∧lp'.length≤lp.length+2∧
   ke l n0 x ba bn bp sv (b::a::D) E' (fun v=>G v++pK (a,b) v) (fun u=>if u∈E'∧P u=P a then P b else P u) la' lp' rows' q' w'∧JB n0 ba bn bp w w':=by
 obtain⟨i0,hi0,hz0,hz1,hz2⟩:=aM dM;have HI:=aa hi0;have HZ0:=aa hz0;have HZ1:=aa hz1;have HZ2:=aa hz2;clear hi0 hz0 hz1 hz2;have hmx:Tryz.prog.follows .mixedOrders=true:=K9;obtain⟨pa,hpa⟩:∃p,ar l a=p:=⟨_,rfl⟩;obtain⟨pb,hpb⟩:∃p,ar l b=p:=⟨_,rfl⟩;have HPA:=aa hpa;have HPB:=aa hpb;rw[hpa,hpb];obtain⟨ax,ay⟩:=pa;obtain⟨bx,by1⟩:=pb;clear hpa hpb;have HP:=aa hP;have HJ:=aa h;have HN0:=aa hn0;have HB0:Hid (JB n0 ba bn bp w w):=aa (JB.refl _ _ _ _ _);clear h hP hn0;go_enter Tryz.func93,Tryz.ntmps93
 go_upto_region 1 with(fail);obtain⟨w5,hw5⟩:∃w5,(w.alloc (.cells #[.int .i64 ax,.int .i64 ay,.int .i64 bx,.int .i64 by1] 68)).drew=w5:=⟨_,rfl⟩;have hb5:Below w.heap.size w w5:=by rw[←hw5];exact((Below.refl _ _).alloc (Nat.le_refl _) _).drew
 have x5:w5.heap[w.heap.size]? =some (.cells #[.int .i64 ax,.int .i64 ay,.int .i64 bx,.int .i64 by1] 68 (0,0)):=by rw[←hw5];exact heap_alloc_new _ _
 have h5:=HJ.out.lift hb5;refine aU (fun W=>W.heap[x]? =some (.cells #[.map (some ba),.map (some bn),.map (some bp),sv] 182 (0,0))∧W.heap[w.heap.size]? =some (.cells #[.int .i64 ax,.int .i64 ay,.int .i64 bx,.int .i64 by1] 68 (0,0))) 19 hmx ?_;rw[hw5];have m5:=aC h5.mat;obtain⟨st,w6,hme,hg6,hs6,_,hmb6,hback⟩:=h5.mat.entry Bk Tryz.underlying178 ji (by unfold maxLen;omega) (x:=a) hka;obtain⟨w7,hst,hm7,hg7,hs7⟩:=hback w6 (Pm.ptV ⟨ax,ay⟩) rfl
 obtain⟨st2,w8,hme2,hg8,hs8,_,hmb8,hback2⟩:=hm7.entry Bk Tryz.underlying178 ji (by rw[dF];unfold maxLen;split<;>omega) (x:=b) hkb;obtain⟨w9,hst2,hm9,hg9,hs9⟩:=hback2 w8 (Pm.ptV ⟨bx,by1⟩) rfl;obtain⟨z1,hz1⟩:∃z,(aJ la a).getD (.agg #[.int .i64 0,.int .i64 0])=z:=⟨_,rfl⟩;obtain⟨z2,hz2⟩:∃z,(aJ (cR la a (Pm.ptV ⟨ax,ay⟩)) b).getD (.agg #[.int .i64 0,.int .i64 0])=z:=⟨_,rfl⟩;rw[hz1]at hme;rw[hz2]at hme2
 change (Instr.mapEntry 178 (.map (some ba)) (.string a)).run _ _= .ok (.tuple #[z1,.int .i64 (st:Int)]) _ at hme;change (Instr.entryStore 178 (.map (some ba)) (.int .i64 (st:Int)) (.agg #[.int .i64 ax,.int .i64 ay])).run _ _= .ok () _ at hst;change (Instr.mapEntry 178 (.map (some ba)) (.string b)).run _ _= .ok (.tuple #[z2,.int .i64 (st2:Int)]) _ at hme2;change (Instr.entryStore 178 (.map (some ba)) (.int .i64 (st2:Int)) (.agg #[.int .i64 bx,.int .i64 by1])).run _ _= .ok () _ at hst2
 have hgg:=bt (bt hg6 hg7) (bt hg8 hg9);have ne1:some ba≠some x:=fun e=>ki m5 h5.box (Option.some.inj e).symm;have ne2:some ba≠some w.heap.size:=fun e=>ki m5 x5 (Option.some.inj e).symm;have HM5:=aa (And.intro h5.box x5);have HM6:=aa (And.intro (fQ hg6 HM5.out.1 ne1) (fQ hg6 HM5.out.2 ne2));have HM7:=aa (And.intro (fQ hg7 HM6.out.1 ne1) (fQ hg7 HM6.out.2 ne2));have HM8:=aa (And.intro (fQ hg8 HM7.out.1 ne1) (fQ hg8 HM7.out.2 ne2))
 have HMC:Hid (∀W:World,(W.heap[x]? =some (.cells #[.map (some ba),.map (some bn),.map (some bp),sv] 182 (0,0))∧W.heap[w.heap.size]? =some (.cells #[.int .i64 ax,.int .i64 ay,.int .i64 bx,.int .i64 by1] 68 (0,0)))→W.cell? ⟨x,0,none⟩=some (.map (some ba))∧W.cell? ⟨w.heap.size,0,none⟩=some (.int .i64 ax)∧W.cell? ⟨w.heap.size,1,none⟩=some (.int .i64 ay)∧W.cell? ⟨w.heap.size,2,none⟩=some (.int .i64 bx)∧W.cell? ⟨w.heap.size,3,none⟩=some (.int .i64 by1)):=aa (fun W hW=>⟨(aY hW.1).1,(aY hW.2).1,(aY hW.2).2.1,(aY hW.2).2.2.1,(aY hW.2).2.2.2⟩)
 have HJ9:Hid (ke l n0 x ba bn bp sv (b::a::D) E G P (cR (cR la a (Pm.ptV (ar l a))) b (Pm.ptV (ar l b))) lp rows q w9):=aa ((h5.put_at (v:=a) (by rw[HPA.out];exact hm7) (bt hg6 hg7)).put_at (v:=b) (by rw[HPA.out,HPB.out];exact hm9) (bt hg8 hg9));have HB9:Hid (JB n0 ba bn bp w w9):=aa ((HB0.out.lift HN0.out hb5).step HN0.out hgg (fun r e=>by rw[←Option.some.inj e];exact .inl rfl));clear hback hback2 hmb6 hmb8 hm7 hm9 hg6 hg7 hg8 hg9 hgg hs6 hs7 hs8 hs9 h5 x5 m5 ne1 ne2 hz1 hz2 hb5 hw5
 simp only[List.size_toArray,List.length_cons,List.length_nil,Nat.reduceAdd];refine wk 0 (.pointer (some ⟨x,0,none⟩)) rfl (fun w hm=>rfl) ?_;refine wkg 1 (.pointer (some ⟨x,0,none⟩)) rfl ?_;refine wkg 2 (.pointer (some ⟨x,0,none⟩)) rfl ?_;refine wk 3 (.map (some ba)) rfl (fun w hm=>by obtain⟨m0,m1,m2,m3,m4⟩:=HMC.out w hm;clear m1 m2 m3 m4;go_simp) ?_;refine wkg 4 (.string a) rfl ?_;refine wkg 5 (.pointer (some ⟨x,0,none⟩)) rfl ?_;refine wkg 6 (.pointer (some ⟨x,0,none⟩)) rfl ?_
 refine wkg 7 (.pointer (some ⟨x,0,none⟩)) rfl ?_;refine wk 8 (.map (some ba)) rfl (fun w hm=>by obtain⟨m0,m1,m2,m3,m4⟩:=HMC.out w hm;clear m1 m2 m3 m4;go_simp) ?_;refine wkg 9 (.string b) rfl ?_;refine wkg 10 (.pointer (some ⟨w.heap.size,0,none⟩)) rfl ?_;refine wk 11 (.agg #[.int .i64 ax,.int .i64 ay]) rfl (fun w hm=>by obtain⟨m0,m1,m2,m3,m4⟩:=HMC.out w hm;clear m0 m3 m4;go_simp) ?_;refine wkg 12 (.pointer (some ⟨w.heap.size,2,none⟩)) rfl ?_
 refine wk 13 (.agg #[.int .i64 bx,.int .i64 by1]) rfl (fun w hm=>by obtain⟨m0,m1,m2,m3,m4⟩:=HMC.out w hm;clear m0 m1 m2;go_simp) ?_;refine wr1 14 HM5.out rfl (fun K' hK=>?_);go_simp;refine hK _ _ ?_;refine wkg 15 (.int .i64 (st:Int)) rfl ?_;refine wr1 16 HM6.out rfl (fun K' hK=>?_);go_simp;refine hK _ _ ?_;refine wr1 17 HM7.out rfl (fun K' hK=>?_);go_simp;refine hK _ _ ?_;refine wkg 18 (.int .i64 (st2:Int)) rfl ?_;refine wr1 19 HM8.out rfl (fun K' hK=>?_);go_simp;refine hK _ _ ?_;refine wdM ?_
 have hl2:(cR (cR la a (Pm.ptV (ar l a))) b (Pm.ptV (ar l b))).length≤la.length+2:=by rw[dF,dF];split<;>split<;>omega
 obtain⟨la2,hla2⟩:∃z,(cR (cR la a (Pm.ptV (ar l a))) b (Pm.ptV (ar l b)))=z:=⟨_,rfl⟩;rw[hla2]at HJ9 hl2;have HL2:=aa hl2;clear hl2 hla2 HJ HM5 HM6 HM7 HM8 HMC hme hst hme2 hst2;go_simp;go_upto_region 2 with(fail);obtain⟨wa,hwa⟩:∃wa,(w9).drew=wa:=⟨_,rfl⟩;have hja:ke l n0 x ba bn bp sv (b::a::D) E G P la2 lp rows q wa:=by rw[←hwa];exact HJ9.out.lift (aA _)
 have HBA:Hid (JB n0 ba bn bp w wa):=aa (by rw[←hwa];exact HB9.out.lift HN0.out (aA _));obtain⟨pre,post,v0,e0,hst0,hrow0,hv0,hput⟩:=hja.nb_at a;obtain⟨A0,c0,rfl,_⟩:=hst0;have hbd:(G a).length≤1000:=by exact hga
 have hlk:∀W:World,cE W bn (keyed rows)→(Instr.lookup 179 (.map (some bn)) (.string a) false).run Tryz.prog W= .ok (.slice A0 (G a).length c0) W:=fun W hW=>by
  have:=hW.look Tryz.underlying179 ee (x:=a) hka;rw[e0]at this;exact this
 have HMC:Hid (∀W:World,(W.heap[x]? =some (.cells #[.map (some ba),.map (some bn),.map (some bp),sv] 182 (0,0))∧cE W bn (keyed rows))→W.cell? ⟨x,1,none⟩=some (.map (some bn))∧(Instr.lookup 179 (.map (some bn)) (.string a) false).run Tryz.prog W= .ok (.slice A0 (G a).length c0) W):=aa (fun W hW=>⟨(aY hW.1).2.1,hlk W hW.2⟩);refine aU (fun W=>W.heap[x]? =some (.cells #[.map (some ba),.map (some bn),.map (some bp),sv] 182 (0,0))∧cE W bn (keyed rows)) 14 hmx ?_;rw[hwa]
 have HM0:=aa (And.intro hja.box hja.mnb);have hbe:Below wa.heap.size wa (wa.alloc (.cells #[.string b] 9)):=(Below.refl _ _).alloc (Nat.le_refl _) _;have HMB:=aa (And.intro (ai hbe hja.box) (hja.mnb.kept (aI hbe) (by simp)));have HRB:=aa (ao hrow0 hbe);have HRA:=aa hrow0;have HLE:Hid (n0≤wa.heap.size):=aa (Nat.le_trans HN0.out HBA.out.size)
 have HNW:Hid (∀(j:Nat)(u:Value),[(Value.string b)][j]? =some u→(wa.alloc (.cells #[.string b] 9)).cell? ((⟨wa.heap.size,0,none⟩:Addr).add j)=some u):=aa (fun j u hj=>World.news_of_block (cs:=#[.string b]) (t:=9) (fr:=(0,0)) (heap_alloc_new wa _) j u hj);have HPUT:=aa hput;have HBE:=aa hbe;have HJA:=aa hja;have HV0:=aa hv0;clear hja hrow0 hv0 hput hlk hbe e0 hwa;simp only[List.size_toArray,List.length_cons,List.length_nil,Nat.reduceAdd];refine wk 0 (.pointer (some ⟨x,0,none⟩)) rfl (fun w hm=>rfl) ?_
 refine wkg 1 (.pointer (some ⟨x,0,none⟩)) rfl ?_;refine wkg 2 (.pointer (some ⟨x,1,none⟩)) rfl ?_;refine wk 3 (.map (some bn)) rfl (fun w hm=>by obtain⟨m0,m1⟩:=HMC.out w hm;clear m1;go_simp) ?_;refine wkg 4 (.string a) rfl ?_;refine wkg 5 (.pointer (some ⟨x,0,none⟩)) rfl ?_;refine wkg 6 (.pointer (some ⟨x,0,none⟩)) rfl ?_;refine wkg 7 (.pointer (some ⟨x,1,none⟩)) rfl ?_;refine wk 8 (.map (some bn)) rfl (fun w hm=>by obtain⟨m0,m1⟩:=HMC.out w hm;clear m1;go_simp) ?_;refine wkg 9 (.string a) rfl ?_
 refine wk 10 (.slice A0 (G a).length c0) rfl (fun w hm=>by obtain⟨m0,m1⟩:=HMC.out w hm;clear m0;go_simp) ?_;refine wkg 11 (.string b) rfl ?_;refine wr1 12 HM0.out rfl (fun K' hK=>?_);go_simp;refine hK _ _ ?_;refine aG (rs:=[13]) K9 (by simp) (HMB.out) ?_;refine wnM rfl (fun K' hK=>?_)
 refine step_append_lies _ rfl (.tmp 43) (.tmp 45) 39 rfl n0 9 i0 (.string ⟨#[]⟩) 1 16 Tryz.underlying39 HI.out HZ0.out HZ1.out HZ2.out rfl (by decide) (.slice A0 (G a).length c0) (G a).length ((G a).map .string) rfl HRB.out ⟨wa.heap.size,0,none⟩ 1 1 [.string b] rfl rfl HNW.out (fun u hu=>by simp at hu;rw[hu];rfl) (by decide) (by unfold maxLen;omega) O9 (Nat.le_trans HLE.out HBE.out.size) (wa.heap.size+1) (by simp) ?_;intro g9 cap9 w10 hown9 hgrow9 hat9 hlt9
 have HG9:Hid (wa.grownBy w10 (Value.slice A0 (G a).length c0).ownBlock):=aa (jL HBE.out hgrow9);have hno:=aH HRA.out (aC HJA.out.mnb);have HMC1:Hid (w10.heap[x]? =some (.cells #[.map (some ba),.map (some bn),.map (some bp),sv] 182 (0,0))∧cE w10 bn (keyed rows)):=aa ⟨fQ HG9.out HJA.out.box (fun e=>by obtain⟨_,cur,hc⟩:=bK HRA.out e;rw[HJA.out.box]at hc;cases hc),HJA.out.mnb.kept HG9.out (fun e=>hno e.symm)⟩
 obtain⟨w11,hst,hm11,ht11⟩:=HMC1.out.2.store Tryz.underlying179 (by unfold keyed;rw[List.length_map];unfold maxLen;omega) (x:=a) hka (.slice (some ⟨g9,0,none⟩) ((G a).length+1) cap9);change (Instr.mapUpdate 179 (.map (some bn)) (.string a) (.slice (some ⟨g9,0,none⟩) ((G a).length+1) cap9)).run _ _=_ at hst
 obtain⟨f1,f2,f3⟩:=HPUT.out (.slice (some ⟨g9,0,none⟩) ((G a).length+1) cap9) b w10 w11 HG9.out (by rw[List.length_append,List.map_append];exact hown9) (fun g hg=>hat9.elim (fun e=>.inl (by rw[←hg];exact e)) (fun e=>.inr (by have:=Option.some.inj (show some g9=some g from hg);omega))) hm11 ht11.grown;have HJN:=aa f3;have HRL:=aa f2
 have HBN:Hid (JB n0 ba bn bp w w11):=aa ((HBA.out.step HN0.out HG9.out (fun k e=>.inr (.inr (.inr (aj HRA.out e).1)))).step HN0.out ht11.grown (fun k e=>by cases e;exact .inr (.inl rfl)));clear hown9 hgrow9 hat9 hlt9 hno hm11 ht11 f1 f2 f3;refine hK _ _ ?_;refine wr1 14 HMC1.out rfl (fun K' hK=>?_);go_simp;refine hK _ _ ?_;refine wdM ?_;obtain⟨G1,hG1⟩:∃G1:BA→List BA,(fun u=>if u=a then G a++[b]else G u)=G1:=⟨_,rfl⟩
 obtain⟨rows1,hr1⟩:∃r,pre++(a,Value.slice (some ⟨g9,0,none⟩) ((G a).length+1) cap9,G a++[b])::post=r:=⟨_,rfl⟩;rw[hr1]at HJN HRL;rw[hG1]at HJN;have HJ11:=HJN;have HB11:=HBN;have HRL1:=HRL;have hr1l:=HRL1.out;have HG1:=aa hG1;clear hr1 HJN HBN HRL hst HPUT HJA HV0 HRA HRB HMB HM0 HMC HMC1 HNW HBE HBA HG9 HLE HJ9 HB9 hG1;obtain⟨W11,hW11⟩:∃W11,w11=W11:=⟨_,rfl⟩;subst hW11;go_simp;go_upto_region 3 with(fail);obtain⟨wa,hwa⟩:∃wa,(w11).drew=wa:=⟨_,rfl⟩
 have hja:ke l n0 x ba bn bp sv (b::a::D) E G1 P la2 lp rows1 q wa:=by rw[←hwa];exact HJ11.out.lift (aA _)
 have HBA:Hid (JB n0 ba bn bp w wa):=aa (by rw[←hwa];exact HB11.out.lift HN0.out (aA _));obtain⟨pre,post,v0,e0,hst0,hrow0,hv0,hput⟩:=hja.nb_at b;obtain⟨A0,c0,rfl,_⟩:=hst0;have hbd:(G1 b).length≤1000:=by rw[←HG1.out];simp only[if_neg hab.symm];exact hgb
 have hlk:∀W:World,cE W bn (keyed rows1)→(Instr.lookup 179 (.map (some bn)) (.string b) false).run Tryz.prog W= .ok (.slice A0 (G1 b).length c0) W:=fun W hW=>by
  have:=hW.look Tryz.underlying179 ee (x:=b) hkb;rw[e0]at this;exact this
 have HMC:Hid (∀W:World,(W.heap[x]? =some (.cells #[.map (some ba),.map (some bn),.map (some bp),sv] 182 (0,0))∧cE W bn (keyed rows1))→W.cell? ⟨x,1,none⟩=some (.map (some bn))∧(Instr.lookup 179 (.map (some bn)) (.string b) false).run Tryz.prog W= .ok (.slice A0 (G1 b).length c0) W):=aa (fun W hW=>⟨(aY hW.1).2.1,hlk W hW.2⟩);refine aU (fun W=>W.heap[x]? =some (.cells #[.map (some ba),.map (some bn),.map (some bp),sv] 182 (0,0))∧cE W bn (keyed rows1)) 14 hmx ?_;rw[hwa]
 have HM0:=aa (And.intro hja.box hja.mnb);have hbe:Below wa.heap.size wa (wa.alloc (.cells #[.string a] 9)):=(Below.refl _ _).alloc (Nat.le_refl _) _;have HMB:=aa (And.intro (ai hbe hja.box) (hja.mnb.kept (aI hbe) (by simp)));have HRB:=aa (ao hrow0 hbe);have HRA:=aa hrow0;have HLE:Hid (n0≤wa.heap.size):=aa (Nat.le_trans HN0.out HBA.out.size)
 have HNW:Hid (∀(j:Nat)(u:Value),[(Value.string a)][j]? =some u→(wa.alloc (.cells #[.string a] 9)).cell? ((⟨wa.heap.size,0,none⟩:Addr).add j)=some u):=aa (fun j u hj=>World.news_of_block (cs:=#[.string a]) (t:=9) (fr:=(0,0)) (heap_alloc_new wa _) j u hj);have HPUT:=aa hput;have HBE:=aa hbe;have HJA:=aa hja;have HV0:=aa hv0;clear hja hrow0 hv0 hput hlk hbe e0 hwa;simp only[List.size_toArray,List.length_cons,List.length_nil,Nat.reduceAdd];refine wk 0 (.pointer (some ⟨x,0,none⟩)) rfl (fun w hm=>rfl) ?_
 refine wkg 1 (.pointer (some ⟨x,0,none⟩)) rfl ?_;refine wkg 2 (.pointer (some ⟨x,1,none⟩)) rfl ?_;refine wk 3 (.map (some bn)) rfl (fun w hm=>by obtain⟨m0,m1⟩:=HMC.out w hm;clear m1;go_simp) ?_;refine wkg 4 (.string b) rfl ?_;refine wkg 5 (.pointer (some ⟨x,0,none⟩)) rfl ?_;refine wkg 6 (.pointer (some ⟨x,0,none⟩)) rfl ?_;refine wkg 7 (.pointer (some ⟨x,1,none⟩)) rfl ?_;refine wk 8 (.map (some bn)) rfl (fun w hm=>by obtain⟨m0,m1⟩:=HMC.out w hm;clear m1;go_simp) ?_;refine wkg 9 (.string b) rfl ?_
 refine wk 10 (.slice A0 (G1 b).length c0) rfl (fun w hm=>by obtain⟨m0,m1⟩:=HMC.out w hm;clear m0;go_simp) ?_;refine wkg 11 (.string a) rfl ?_;refine wr1 12 HM0.out rfl (fun K' hK=>?_);go_simp;refine hK _ _ ?_;refine aG (rs:=[13]) K9 (by simp) (HMB.out) ?_;refine wnM rfl (fun K' hK=>?_)
 refine step_append_lies _ rfl (.tmp 57) (.tmp 59) 39 rfl n0 9 i0 (.string ⟨#[]⟩) 1 16 Tryz.underlying39 HI.out HZ0.out HZ1.out HZ2.out rfl (by decide) (.slice A0 (G1 b).length c0) (G1 b).length ((G1 b).map .string) rfl HRB.out ⟨wa.heap.size,0,none⟩ 1 1 [.string a] rfl rfl HNW.out (fun u hu=>by simp at hu;rw[hu];rfl) (by decide) (by unfold maxLen;omega) O9 (Nat.le_trans HLE.out HBE.out.size) (wa.heap.size+1) (by simp) ?_;intro g9 cap9 w10 hown9 hgrow9 hat9 hlt9
 have HG9:Hid (wa.grownBy w10 (Value.slice A0 (G1 b).length c0).ownBlock):=aa (jL HBE.out hgrow9);have hno:=aH HRA.out (aC HJA.out.mnb);have HMC1:Hid (w10.heap[x]? =some (.cells #[.map (some ba),.map (some bn),.map (some bp),sv] 182 (0,0))∧cE w10 bn (keyed rows1)):=aa ⟨fQ HG9.out HJA.out.box (fun e=>by obtain⟨_,cur,hc⟩:=bK HRA.out e;rw[HJA.out.box]at hc;cases hc),HJA.out.mnb.kept HG9.out (fun e=>hno e.symm)⟩
 obtain⟨w11,hst,hm11,ht11⟩:=HMC1.out.2.store Tryz.underlying179 (by unfold keyed;rw[List.length_map];unfold maxLen;omega) (x:=b) hkb (.slice (some ⟨g9,0,none⟩) ((G1 b).length+1) cap9);change (Instr.mapUpdate 179 (.map (some bn)) (.string b) (.slice (some ⟨g9,0,none⟩) ((G1 b).length+1) cap9)).run _ _=_ at hst
 obtain⟨f1,f2,f3⟩:=HPUT.out (.slice (some ⟨g9,0,none⟩) ((G1 b).length+1) cap9) a w10 w11 HG9.out (by rw[List.length_append,List.map_append];exact hown9) (fun g hg=>hat9.elim (fun e=>.inl (by rw[←hg];exact e)) (fun e=>.inr (by have:=Option.some.inj (show some g9=some g from hg);omega))) hm11 ht11.grown;have HJN:=aa f3;have HRL:=aa f2
 have HBN:Hid (JB n0 ba bn bp w w11):=aa ((HBA.out.step HN0.out HG9.out (fun k e=>.inr (.inr (.inr (aj HRA.out e).1)))).step HN0.out ht11.grown (fun k e=>by cases e;exact .inr (.inl rfl)));clear hown9 hgrow9 hat9 hlt9 hno hm11 ht11 f1 f2 f3;refine hK _ _ ?_;refine wr1 14 HMC1.out rfl (fun K' hK=>?_);go_simp;refine hK _ _ ?_;refine wdM ?_;obtain⟨G2,hG2⟩:∃G2:BA→List BA,(fun u=>if u=b then G1 b++[a]else G1 u)=G2:=⟨_,rfl⟩
 obtain⟨rows2,hr2⟩:∃r,pre++(b,Value.slice (some ⟨g9,0,none⟩) ((G1 b).length+1) cap9,G1 b++[a])::post=r:=⟨_,rfl⟩;rw[hr2]at HJN HRL;rw[hG2]at HJN;have HG2:Hid (G2=fun v=>G v++pK (a,b) v):=aa (by
  rw[←hG2,←HG1.out];funext u;unfold pK;by_cases e1:u=a
  ·subst e1;simp[hab]
  ·by_cases e2:u=b
   ·subst e2;simp[e1]
   ·simp[e1,e2])
 have HRL2:Hid (rows2.length≤rows.length+2):=aa (by have:=HRL.out;have:=HRL1.out;omega);have HJ2:=HJN;have HB2:=HBN;clear hr2 hG2 HJN HBN HRL hst HPUT HJA HV0 HRA HRB HMB HM0 HMC HMC1 HNW HBE HBA HG9 HLE HJ11 HB11 HRL1 HG1 hr1l hgb hga h2;obtain⟨W2,hW2⟩:∃z,z=w11:=⟨_,rfl⟩;subst hW2;obtain⟨gab,hgab⟩:∃z,z=W2.heap.size:=⟨_,rfl⟩;obtain⟨W3,hW3⟩:∃z,z=W2.alloc (.cells #[.string a,.string b] 9):=⟨_,rfl⟩;have hb3:Below W2.heap.size W2 W3:=by rw[hW3];exact(Below.refl _ _).alloc (Nat.le_refl _) _
 have HJ3:=aa (HJ2.out.lift hb3);have HB3:Hid (JB n0 ba bn bp w W3):=aa (HB2.out.lift HN0.out hb3);have HX3:Hid (W3.heap[gab]? =some (.cells #[.string a,.string b] 9 (0,0))):=aa (by rw[hW3,hgab];exact heap_alloc_new _ _);clear hb3 HJ2 HB2;go_simp;go_wp2_with fail;have hwr:W2.alloc (.cells #[.string a,.string b] 9)=W3:=hW3.symm;rw[hwr,←hgab];clear hwr hW3 hgab
 go_loopw [65] (fun i wr=>∃(k:Nat)(E1:List BA)(lp1:List (BA×Value))(q1:BA→Nat),k≤2∧i= .int .i64 k∧lp1.length≤lp.length+k∧Hid (∀v,v∈E1↔v∈E∨(1≤k∧v=a)∨(2≤k∧v=b))∧Hid (ke l n0 x ba bn bp sv (b::a::D) E1 G2 P la2 lp1 rows2 q1 wr)∧Hid (JB n0 ba bn bp w wr)∧Hid (wr.heap[gab]? =some (.cells #[.string a,.string b] 9 (0,0)))) (fun i _=>2-(intOf i).toNat)
 case atStart=>exact⟨0,E,lp,q,O9,rfl,O9,aa (fun v=>by simp),HJ3,HB3,HX3⟩
 case round=>
  clear HJ3 HB3 HX3;obtain⟨k,E1,lp1,q1,hk,rfl,hl1,hE,hj,hb,hx⟩:=hrel;by_cases hlt:k<2
  ·obtain⟨v,hv1,hv2,hks⟩:∃v,wr.cell? ⟨gab,k,none⟩=some (.string v)∧((k=0∧v=a)∨(k=1∧v=b))∧v.size≤maxLen:=by
    obtain⟨⟨y0,y1⟩,_⟩:=aW hx.out;rcases(show k=0∨k=1 by omega)with rfl|rfl
    ·exact⟨a,y0,.inl ⟨rfl,rfl⟩,hka⟩
    ·exact⟨b,y1,.inr ⟨rfl,rfl⟩,hkb⟩
   have hlook:(Instr.lookup 180 (.map (some bp)) (.string v) false).run Tryz.prog wr=_:=hj.out.mpt.look Tryz.underlying180 jM (x:=v) hks;rw[hj.out.labs v]at hlook;have y2:=(aY hj.out.box).2.2.1;have k0:(0:Int)≤k:=O9;have k1:(k:Int)<2:=O9;have HE2:Hid (∀u,u=v↔(k=0∧u=a)∨(k=1∧u=b)):=aa (fun u=>by
    rcases hv2 with⟨h1,h2⟩|⟨h1,h2⟩
    ·rw[h2];simp[h1]
    ·rw[h2];simp[h1])
   clear hv2;by_cases hvE:v∈E1
   ·rw[if_pos hvE,Option.getD_some]at hlook;have HEN:Hid (∀u,u∈E1↔u∈E∨(1≤k+1∧u=a)∨(2≤k+1∧u=b)):=aa (fun u=>by
     have e1:=hE.out u;have e2:=HE2.out u;have e3:=(HE2.out v).1 rfl;constructor
     ·intro h;rcases e1.1 h with h|⟨h1,h2⟩|⟨h1,h2⟩
      ·exact .inl h
      ·exact .inr (.inl ⟨O9,h2⟩)
      ·exact .inr (.inr ⟨O9,h2⟩)
     ·rintro(h|⟨h1,h2⟩|⟨h1,h2⟩)
      ·exact e1.2 (.inl h)
      ·rcases(show k=0∨1≤k by omega)with g|g
       ·have:=e2.2 (.inl ⟨g,h2⟩);rw[this];exact hvE
       ·exact e1.2 (.inr (.inl ⟨g,h2⟩))
      ·rcases(show k=1∨2≤k by omega)with g|g
       ·have:=e2.2 (.inr ⟨g,h2⟩);rw[this];exact hvE
       ·exact e1.2 (.inr (.inr ⟨g,h2⟩)))
    have hjn:=hj;have hbn:=hb;have hxn:=hx;clear hvE hE hj hb hx HE2;go_wp2_with fail;refine⟨⟨k+1,E1,lp1,q1,O9,by go_num,O9,HEN,hjn,hbn,hxn⟩,?_⟩;simp[intOf];omega
   ·rw[if_neg hvE,Option.getD_none]at hlook;obtain⟨w8,hst,hm8,ht8⟩:=(hj.out.mpt.alloc (.cells #[.string v] 9)).store Tryz.underlying180 (by unfold maxLen;omega) (x:=v) hks (.pointer (some ⟨wr.heap.size,0,none⟩));change (Instr.mapUpdate 180 (.map (some bp)) (.string v) (.pointer (some ⟨wr.heap.size,0,none⟩))).run _ _=_ at hst;have hpv:P v=v:=HP.out v (fun h=>hvE ((hE.out v).2 (.inl h)));have hle:n0≤wr.heap.size:=Nat.le_trans HN0.out hb.out.size;have hj8:=aa (hj.out.put_lab hpv hle hm8 ht8.grown)
    have hb8:Hid (JB n0 ba bn bp w w8):=aa ((hb.out.lift HN0.out ((Below.refl _ _).alloc (Nat.le_refl _) (.cells #[.string v] 9))).step HN0.out ht8.grown (fun r e=>by rw[←Option.some.inj e];exact .inr (.inr (.inl rfl))));have hx8:Hid (w8.heap[gab]? =some (.cells #[.string a,.string b] 9 (0,0))):=aa (fQ ht8.grown (dU _ hx.out) (fun e=>ki (aC hj.out.mpt) hx.out (Option.some.inj e).symm));have hl8:Hid ((cR lp1 v (.pointer (some ⟨wr.heap.size,0,none⟩))).length≤lp.length+(k+1)):=aa (by rw[dF];split<;>omega)
    have HEN:Hid (∀u,u∈v::E1↔u∈E∨(1≤k+1∧u=a)∨(2≤k+1∧u=b)):=aa (fun u=>by
     have e1:=hE.out u;have e2:=HE2.out u;rw[List.mem_cons,e2,e1];constructor
     ·rintro((⟨h1,h2⟩|⟨h1,h2⟩)|h|⟨h1,h2⟩|⟨h1,h2⟩)
      ·exact .inr (.inl ⟨O9,h2⟩)
      ·exact .inr (.inr ⟨O9,h2⟩)
      ·exact .inl h
      ·exact .inr (.inl ⟨O9,h2⟩)
      ·exact .inr (.inr ⟨O9,h2⟩)
     ·rintro(h|⟨h1,h2⟩|⟨h1,h2⟩)
      ·exact .inr (.inl h)
      ·rcases(show k=0∨1≤k by omega)with g|g
       ·exact .inl (.inl ⟨g,h2⟩)
       ·exact .inr (.inr (.inl ⟨g,h2⟩))
      ·rcases(show k=1∨2≤k by omega)with g|g
       ·exact .inl (.inr ⟨g,h2⟩)
       ·exact .inr (.inr (.inr ⟨g,h2⟩)))
    have y3:=(aY (dU (.cells #[.string v] 9) hj.out.box)).2.2.1;clear hvE hE hj hb hx HE2 hm8 ht8 hpv hle hl1;go_wp2_with fail;refine⟨⟨k+1,v::E1,_,_,O9,by go_num,hl8.out,HEN,hj8,hb8,hx8⟩,?_⟩;simp[intOf];omega
  ·(obtain rfl:k=2:=by omega);have HEN:Hid (∀v,v∈E1↔v∈E∨v=a∨v=b):=aa (fun v=>by rw[hE.out v];simp);have hj0:=hj.out.lift (aA wr);have ha1:a∈E1:=(HEN.out a).2 (.inr (.inl rfl));have hb1:b∈E1:=(HEN.out b).2 (.inr (.inr rfl));have lk1:(Instr.lookup 180 (.map (some bp)) (.string a) false).run Tryz.prog wr.drew=_:=hj0.mpt.look Tryz.underlying180 jM (x:=a) hka;have lk2:(Instr.lookup 180 (.map (some bp)) (.string b) false).run Tryz.prog wr.drew=_:=hj0.mpt.look Tryz.underlying180 jM (x:=b) hkb
   rw[hj0.labs a,if_pos ha1,Option.getD_some]at lk1;rw[hj0.labs b,if_pos hb1,Option.getD_some]at lk2;have z1:=(aY hj0.box).2.2.1;have z2:=cell_of_row _ _ 0 _ _ _ (hj0.cell a ha1).2;have z3:=cell_of_row _ _ 0 _ _ _ (hj0.cell b hb1).2;have HLL:Hid (lp1.length≤lp.length+2):=aa hl1;have HBD:Hid (JB n0 ba bn bp w wr.drew):=aa (hb.out.lift HN0.out (aA wr));have HJD:=aa hj0;obtain⟨pA,hpA⟩:∃z,P a=z:=⟨_,rfl⟩;obtain⟨pB,hpB⟩:∃z,P b=z:=⟨_,rfl⟩;rw[hpA]at z2;rw[hpB]at z3;have HPA2:=aa hpA;have HPB2:=aa hpB
   have HCI:Hid (∀v∈E1,v.size≤maxLen):=aa (fun v hv=>FC hj0.mpt (by rw[hj0.labs v,if_pos hv]));clear hE hj hb hx hj0 ha1 hb1 hl1 hpA hpB;go_upto_region 11 with(fail)
   go_still K9
   (change Exit.then _ _ _ _ wr.drew);clear lk1 lk2 z1 z2 z3;generalize wr.drew=wd at*;by_cases he:pA=pB
   ·subst he;go_wp2_with fail;go_end0;refine⟨rfl,E1,la2,lp1,rows2,q1,HEN.out,HL2.out,HRL2.out,HLL.out,?_,HBD.out⟩;rw[←HG2.out];have hf:(fun u=>if u∈E1∧P u=P a then P b else P u)=P:=by
     funext u;split
     ·rename_i h;rw[h.2,HPA2.out,HPB2.out]
     ·rfl
    rw[hf];exact HJD.out
   ·have he2:(pA.toList ==pB.toList)=false:=beq_eq_false_iff_ne.2 (fun e=>he (toList_inj.1 e));have y2:=(aY HJD.out.box).2.2.1;obtain⟨w3,hr3,hrg3,hg3,hs3⟩:=HJD.out.mpt.range Tryz.underlying180;have hb3:Below wd.heap.size wd w3:=⟨hg3.os,hg3.tape,hg3.output,hg3.size,fun i hi=>hg3.block i hi (by simp)⟩;have HJ3:Hid (ke l n0 x ba bn bp sv (b::a::D) E1 G2 (fun u=>if u∈E1∧(aJ lp1 u).isSome=false∧P u=pA then pB else P u) la2 lp1 rows2 q1 w3):=aa (by
     have hf:(fun u=>if u∈E1∧(aJ lp1 u).isSome=false∧P u=pA then pB else P u)=P:=by
      funext u;split
      ·rename_i h;have:=HJD.out.labs u;rw[if_pos h.1]at this;rw[this]at h;cases h.2.1
      ·rfl
     rw[hf];exact HJD.out.lift hb3)
    have HRG3:=aa hrg3;have HB3:Hid (JB n0 ba bn bp w w3):=aa (HBD.out.lift HN0.out hb3);have hrbn0:n0≤wd.heap.size:=Nat.le_trans HN0.out HBD.out.size;clear hrg3 hg3 hs3 hb3 HJD;go_wp2_with fail;obtain⟨rb,hrb⟩:∃rb,wd.heap.size=rb:=⟨_,rfl⟩;rw[hrb]at HRG3 hrbn0 ⊢;have HRBN:=aa hrbn0;clear hrbn0;clear hr3 y2
    go_loopw [] (fun wr=>∃(left:BA→Bool)(ja:Nat),Hid (bD (strKeys Tryz.prog 9 Tryz.underlying9) wr bp rb lp1 left ja)∧Hid (ke l n0 x ba bn bp sv (b::a::D) E1 G2 (fun u=>if u∈E1∧left u=false∧P u=pA then pB else P u) la2 lp1 rows2 q1 wr)∧Hid (JB n0 ba bn bp w wr)) (fun wr=>wr.rangeLeft bp rb)
    case atStart=>exact⟨_,_,HRG3,HJ3,HB3⟩
    case round=>
     clear HJ3 HB3 HRG3;obtain⟨left,ja,hrg,hj,hb⟩:=hrel;rcases hrg.out.next with⟨hc0,hl0,hnx⟩|⟨v,u,w5,cnt',hok,hlx,hgx,hnx,hrg5,hlt5,hg5,hs5,hen⟩
     ·have HF:Hid (ke l n0 x ba bn bp sv (b::a::D) E1 G2 (fun u=>if u∈E1∧P u=P a then P b else P u) la2 lp1 rows2 q1 wr):=aa (by
       have hf:(fun u=>if u∈E1∧P u=P a then P b else P u)=(fun u=>if u∈E1∧left u=false∧P u=pA then pB else P u):=by
        funext u;rw[HPA2.out,HPB2.out];by_cases hu:u∈E1
        ·simp[hu,hl0 u (HCI.out u hu)]
        ·simp[hu]
       rw[hf];exact hj.out)
      have HBF:=hb;clear hl0 hrg hj hb hc0;go_wp2_with fail;go_end0;refine⟨rfl,E1,la2,lp1,rows2,q1,HEN.out,HL2.out,HRL2.out,HLL.out,?_,HBF.out⟩;rw[←HG2.out];exact HF.out
     ·have hvE:v∈E1:=by
       by_cases h:v∈E1
       ·exact h
       ·rw[hj.out.labs v,if_neg h]at hgx;cases hgx
      rw[hj.out.labs v,if_pos hvE]at hgx;cases hgx;change ∀ty,(Instr.next (.pointer (some ⟨rb,0,none⟩)) false ty).run Tryz.prog wr= .ok (.tuple #[.bool true,.string v,.pointer (some ⟨q1 v,0,none⟩)]) w5 at hnx;change (Instr.entry (.pointer (some ⟨rb,0,none⟩))).run Tryz.prog w5= .ok (.tuple #[.string v,.pointer (some ⟨q1 v,0,none⟩)]) w5 at hen;obtain⟨mi,se,ei,ci,hit⟩:=dh hrg.out;have ni:∀ {y:Nat}{cs:Array Value}{t:TypeId},wr.heap[y]? =some (.cells cs t (0,0))→some rb≠some y:=fun hy e=>by
       cases e;rw[hit]at hy;cases hy
      have nm:∀ {y:Nat},(∃es c,wr.heap[y]? =some (.map es c))→some rb≠some y:=fun hy e=>by
       obtain⟨es,c,hy⟩:=hy;cases e;rw[hit]at hy;cases hy
      have hj5:=hj.out.kept hg5 (ni hj.out.box) (nm (aC hj.out.mat)) (nm (aC hj.out.mnb)) (nm (aC hj.out.mpt)) (fun u hu=>ni (hj.out.cell u hu).2) (fun y hy g hg e=>bZ (hj.out.sr.row y.2 (List.mem_map.2 ⟨y,hy,rfl⟩)) ⟨mi,se,ei,ci,hit⟩ (by rw[hg];exact e.symm));have hrbn:n0≤rb:=HRBN.out;have hb5:JB n0 ba bn bp w w5:=hb.out.step HN0.out hg5 (fun r e=>by cases e;exact .inr (.inr (.inr hrbn)));have hcv:=(hj5.cell v hvE).2;simp only[hlx,Bool.true_eq_false,false_and,and_false,if_false]at hcv
      have z1:=cell_of_row _ _ 0 _ _ _ hcv;have HM9:Hid (∀W,bD (strKeys Tryz.prog 9 Tryz.underlying9) W bp rb lp1 (fun y=>left y&& !decide (y=v)) cnt'→W.rangeLeft bp rb<wr.rangeLeft bp rb):=aa (fun W h=>by rw[h.left_eq,hrg.out.left_eq];exact hlt5);by_cases hpv:P v=pA
      ·rw[hpv]at z1;obtain⟨hj9,hg9⟩:=hj5.set_lab hvE pB;have z4:w5.frozen? ⟨q1 v,0,none⟩=false:=frozen_of_row w5 (q1 v) 0 _ _ hcv;have HRG9:=aa (hrg5.kept hg9 (fun e=>ki (aC hj5.mpt) hcv (Option.some.inj e).symm) (fun e=>by
        obtain⟨_,_,_,_,h⟩:=dh hrg5;have:=Option.some.inj e;rw[this,hcv]at h;cases h))
       have HJ9:Hid (ke l n0 x ba bn bp sv (b::a::D) E1 G2 (fun u=>if u∈E1∧(left u&& !decide (u=v))=false∧P u=pA then pB else P u) la2 lp1 rows2 q1 (w5.setCell ⟨q1 v,0,none⟩ (.string pB))):=aa (by
        have hf:(fun u=>if u∈E1∧(left u&& !decide (u=v))=false∧P u=pA then pB else P u)=(fun u=>if u=v then pB else if u∈E1∧left u=false∧P u=pA then pB else P u):=by
         funext u;by_cases e:u=v
         ·subst e;simp[hvE,hpv]
         ·simp[e]
        rw[hf];exact hj9)
       have HB9:Hid (JB n0 ba bn bp w (w5.setCell ⟨q1 v,0,none⟩ (.string pB))):=aa (hb5.step HN0.out hg9 (fun r e=>by rw[←Option.some.inj e];exact .inr (.inr (.inr (hj5.cell v hvE).1))));clear hrg hj hb hrg5 hlt5 hg5 hs5 hj5 hb5 hcv hj9 hg9 hlx hok hit ni nm hvE hpv hrbn;go_wp2_with fail;exact⟨⟨_,cnt',HRG9,HJ9,HB9⟩,HM9.out _ HRG9.out⟩
      ·have HJ9:Hid (ke l n0 x ba bn bp sv (b::a::D) E1 G2 (fun u=>if u∈E1∧(left u&& !decide (u=v))=false∧P u=pA then pB else P u) la2 lp1 rows2 q1 w5):=aa (by
        have hf:(fun u=>if u∈E1∧(left u&& !decide (u=v))=false∧P u=pA then pB else P u)=(fun u=>if u∈E1∧left u=false∧P u=pA then pB else P u):=by
         funext u;by_cases e:u=v
         ·subst e;simp[hpv]
         ·simp[e]
        rw[hf];exact hj5)
       have HB9:=aa hb5;have HRG9:=aa hrg5;obtain⟨pv,hpvv⟩:∃z,P v=z:=⟨_,rfl⟩;rw[hpvv]at z1 hpv;have hp2:(pv.toList ==pA.toList)=false:=beq_eq_false_iff_ne.2 (fun e=>hpv (toList_inj.1 e));clear hrg hj hb hrg5 hlt5 hg5 hs5 hj5 hb5 hcv hlx hok hit ni nm hvE hrbn hpvv;go_wp2_with fail;exact⟨⟨_,cnt',HRG9,HJ9,HB9⟩,HM9.out _ HRG9.out⟩
