/-
  The cycles of steps, walked.
-/
import Derived.Test.YtfkgjbdeicggaaaGreatZh
set_option maxHeartbeats 16000000
set_option maxRecDepth 100000
namespace Go.Proofs.YtfkgjbdeicggaaaGreat
open Go.RowKit Go.Proofs.Px Go.Proofs.Pn Go.Proofs.Pm Go.Proofs.Pg Go.Proofs.Pto Go.Proofs.Pf
attribute [local go_sem] Oper.semAt_some run_makeMap
section
variable {l:List Ob} {nb:BA→List BA}
theorem p6{done:eM→Prop}{cs:List (List BA)}(h:ru l nb done cs):(cs.flatMap bE).length≤(an l).length∧cs.length≤(an l).length∧∀c∈cs,c.length≤(an l).length:=by
 have h1:(cs.flatMap bE).length≤(an l).length:=jR h.nd fun s hs=>by
  obtain⟨c,hc,hx⟩:=List.mem_flatMap.1 hs;exact(h.cyc c hc).sub s hx
 have key:∀cs:List (List BA),(∀c∈cs,c≠[])→cs.length≤(cs.flatMap bE).length:=by
  intro cs;induction cs with
  |nil=>intro _;exact Nat.le_refl _
  |cons c cs ih=>
   intro hc;have h1:=ih fun d hd=>hc d (List.mem_cons_of_mem _ hd);have h2:0<c.length:=List.length_pos_iff.2 (hc c (List.mem_cons_self ..));rw[List.flatMap_cons,List.length_append,List.length_cons];unfold bE;rw[List.length_map,List.length_range];unfold bE at h1;omega
 refine⟨h1,Nat.le_trans (key cs fun c hc=>(h.cyc c hc).ne) h1,fun c hc=>?_⟩;have h2:=jR (h.cyc c hc).nd (h.cyc c hc).sub;unfold bE at h2;rwa [List.length_map,List.length_range]at h2
structure rf(l:List Ob)(nb:BA→List BA)(w:World)(bd:Nat)(vo vr:Value)(outs rims:List (Value×List BA))(dl:List (Pr×Value))(W:World):Prop where
 co:kE w.heap.size outs vo W
 cr:kE w.heap.size rims vr W
 ne:∀b,vo.ownBlock=some b→vr.ownBlock≠some b
 dm:kn W bd dl
 cy:ru l nb (fun s=>(aJ dl s).isSome=true) (outs.map Prod.snd++rims.map Prod.snd)
 tr:∀s v,aJ dl s=some v→v= .bool true
 dn:dl.length≤((outs.map Prod.snd++rims.map Prod.snd).flatMap bE).length
 po:∀c∈outs.map Prod.snd,0<tw (aw l c)
 pr:∀c∈rims.map Prod.snd,¬0<tw (aw l c)
 below:Below w.heap.size w W
variable {w:World} {bd:Nat} {vo vr:Value} {outs rims:List (Value×List BA)} {dl:List (Pr×Value)} {W W':World}
theorem rf.start(hm:kn W bd [])(hb:Below w.heap.size w W):rf l nb w bd (.slice none 0 0) (.slice none 0 0) [] [] [] W:=
 ⟨kE.none _ _,kE.none _ _,fun b h=>(by cases h),hm,ru.start.congr (fun s=>⟨False.elim,fun h=>(by cases h)⟩),fun s v h=>(by cases h),Nat.le_refl _,fun c h=>(by cases h),fun c h=>(by cases h),hb⟩
theorem rf.lift(h:rf l nb w bd vo vr outs rims dl W)(hb:Below W.heap.size W W'):rf l nb w bd vo vr outs rims dl W':=
 ⟨h.co.below hb,h.cr.below hb,h.ne,h.dm.kept (aI hb) (by simp),h.cy,h.tr,h.dn,h.po,h.pr,aq h.below hb⟩
theorem rf.iter{b:Nat}(h:rf l nb w bd vo vr outs rims dl W)(hg:W.grownBy W' (some b))(hb:∃m s e c,W.heap[b]? =some (.mapIter m s e c))(hl:w.heap.size≤b):rf l nb w bd vo vr outs rims dl W':=
 ⟨h.co.iter hg hb,h.cr.iter hg hb,h.ne,h.dm.kept hg (fun e=>by
  obtain⟨es,c,h1⟩:=aC h.dm;obtain⟨m,s,e',c',h2⟩:=hb;rw[Option.some.inj e,h2]at h1;cases h1),h.cy,h.tr,h.dn,h.po,h.pr,ak h.below hg (fun r e=>by cases e;exact hl)⟩
theorem rf.walked(h:rf l nb w bd vo vr outs rims dl W)(hg:W.grownBy W' (some bd))(hbd:w.heap.size≤bd){dl':List (Pr×Value)}(hm:kn W' bd dl')(ht:∀s v,aJ dl' s=some v→v= .bool true)(he:∀s,(aJ dl s).isSome=true↔(aJ dl' s).isSome=true)(hl:dl'.length≤dl.length):rf l nb w bd vo vr outs rims dl' W':=
 ⟨h.co.map hg (aC h.dm),h.cr.map hg (aC h.dm),h.ne,hm,h.cy.congr he,ht,Nat.le_trans hl h.dn,h.po,h.pr,ak h.below hg (fun r e=>by cases e;exact hbd)⟩
theorem FJ{c:List BA}{i:Nat}(hi:i≤c.length):tw (aw l (dt c i))=tw (aw l c):=by
 have hp:(aw l (dt c i)).Perm (aw l c):=(jF hi).map _;unfold tw;exact jd hp
theorem rf.addO(co:kE w.heap.size outs vo W)(cr:kE w.heap.size rims vr W)(ne:∀b,vo.ownBlock=some b→vr.ownBlock≠some b)(dm:kn W bd dl){c:List BA}(hcd:ru l nb (fun s=>(aJ dl s).isSome=true) (c::(outs.map Prod.snd++rims.map Prod.snd)))(tr:∀s v,aJ dl s=some v→v= .bool true)
  (dn:dl.length≤((outs.map Prod.snd++rims.map Prod.snd).flatMap bE).length+c.length)(po:∀c∈outs.map Prod.snd,0<tw (aw l c))(pr:∀c∈rims.map Prod.snd,¬0<tw (aw l c))(below:Below w.heap.size w W){i:Nat}(hi:i≤c.length){v8 u:Value}(h8:W.ownsRow w.heap.size 9 1 v8 (dt c i).length ((dt c i).map .string))
  (ht:0<tw (aw l c))(hg:W.grownBy W' vo.ownBlock)(ho:W'.ownsRow w.heap.size 39 1 u (outs.length+1) (outs.map Prod.fst++[v8]))(hat:∀b,u.ownBlock=some b→vo.ownBlock=some b∨W.heap.size≤b):rf l nb w bd u vr (outs++[(v8,dt c i)]) rims dl W':=by
 have hco:=co.push (y:=(v8,dt c i)) h8 hg ho;have hpm:(dt c i::(outs.map Prod.snd++rims.map Prod.snd)).Perm ((outs++[(v8,dt c i)]).map Prod.snd++rims.map Prod.snd):=by
  rw[List.map_append,List.append_assoc];exact List.perm_middle.symm
 refine⟨hco,cr.beside co hg (fun b h1 h2=>ne b h2 h1),fun b h1 h2=>?_,dm.kept hg (fun e=>aH co.own (aC dm) e.symm),(hcd.rotate hi).perm hpm,tr,?_,fun d hd=>?_,pr,ak below hg (fun r e=>(aj co.own e).1)⟩
 ·rcases hat b h1 with g|g
  ·exact ne b g h2
  ·have:=(aj cr.own h2).2;omega
 ·rw[←(hpm.flatMap_right bE).length_eq,List.flatMap_cons,List.length_append,(jF hi).length_eq];unfold bE at dn ⊢;rw[List.length_map,List.length_range];omega
 ·rw[List.map_append]at hd;rcases List.mem_append.1 hd with hd|hd
  ·exact po d hd
  ·simp at hd;rw[hd,FJ hi];exact ht
theorem rf.addR(co:kE w.heap.size outs vo W)(cr:kE w.heap.size rims vr W)(ne:∀b,vo.ownBlock=some b→vr.ownBlock≠some b)(dm:kn W bd dl){c:List BA}(hcd:ru l nb (fun s=>(aJ dl s).isSome=true) (c::(outs.map Prod.snd++rims.map Prod.snd)))(tr:∀s v,aJ dl s=some v→v= .bool true)
  (dn:dl.length≤((outs.map Prod.snd++rims.map Prod.snd).flatMap bE).length+c.length)(po:∀c∈outs.map Prod.snd,0<tw (aw l c))(pr:∀c∈rims.map Prod.snd,¬0<tw (aw l c))(below:Below w.heap.size w W){i:Nat}(hi:i≤c.length){v8 u:Value}(h8:W.ownsRow w.heap.size 9 1 v8 (dt c i).length ((dt c i).map .string))
  (ht:¬0<tw (aw l c))(hg:W.grownBy W' vr.ownBlock)(ho:W'.ownsRow w.heap.size 39 1 u (rims.length+1) (rims.map Prod.fst++[v8]))(hat:∀b,u.ownBlock=some b→vr.ownBlock=some b∨W.heap.size≤b):rf l nb w bd vo u outs (rims++[(v8,dt c i)]) dl W':=by
 have hcr:=cr.push (y:=(v8,dt c i)) h8 hg ho;have hpm:(dt c i::(outs.map Prod.snd++rims.map Prod.snd)).Perm (outs.map Prod.snd++(rims++[(v8,dt c i)]).map Prod.snd):=by
  rw[List.map_append,←List.append_assoc];exact(List.perm_append_singleton _ _).symm
 refine⟨co.beside cr hg ne,hcr,fun b h1 h2=>?_,dm.kept hg (fun e=>aH cr.own (aC dm) e.symm),(hcd.rotate hi).perm hpm,tr,?_,po,fun d hd=>?_,ak below hg (fun r e=>(aj cr.own e).1)⟩
 ·rcases hat b h2 with g|g
  ·exact ne b h1 g
  ·have:=(aj co.own h1).2;omega
 ·rw[←(hpm.flatMap_right bE).length_eq,List.flatMap_cons,List.length_append,(jF hi).length_eq];unfold bE at dn ⊢;rw[List.length_map,List.length_range];omega
 ·rw[List.map_append]at hd;rcases List.mem_append.1 hd with hd|hd
  ·exact pr d hd
  ·simp at hd;rw[hd,FJ hi];exact ht
end
theorem IL{W:World}{bd:Nat}{dl:List (Pr×Value)}(h:kn W bd dl)(ht:∀s v,aJ dl s=some v→v= .bool true)(a b:BA)(hk:iI (a,b)):(Instr.lookup 191 (.map (some bd)) (.agg #[.string a,.string b]) false).run Tryz.prog W= .ok (.bool (aJ dl (a,b)).isSome) W:=by
 have h1:(Instr.lookup 191 (.map (some bd)) (uN (a,b)) false).run Tryz.prog W=_:=h.look Tryz.underlying191 oR (x:=(a,b)) hk;rw[show(aJ dl (a,b)).getD (.bool false)= .bool (aJ dl (a,b)).isSome from by
  cases e:aJ dl (a,b)with
  |none=>rfl
  |some v=>rw[ht _ v e];rfl]at h1
 exact h1
theorem zF(l:List Ob)(hm:aZ l=true)(hc:¬dA l)(nb:BA→List BA)(P:BA→BA)(w:World)(x ba bn bp:Nat)(sv:Value)(la ln lp:List (BA×Value))(h:Gd l nb P w x ba bn bp sv la ln lp)(hn:kD l nb)(hsz:∀s∈an l,s.1.size≤100000)(hst:(an l).length≤500):Calls Tryz.prog 41 #[.pointer (some ⟨x,0,none⟩)] w fun e w'=>∃(vo vr:Value)(outs rims:List (Value×List BA)),e= .returned (.tuple #[vo,vr])∧kE w.heap.size outs vo w'∧kE w.heap.size rims vr w'∧DK l nb (outs.map Prod.snd++rims.map Prod.snd)∧(∀c∈outs.map Prod.snd,0<tw (aw l c))∧(∀c∈rims.map Prod.snd,¬0<tw (aw l c))∧Below w.heap.size w w':=by
 obtain⟨i0,hi0,hz0,hz1,hz2⟩:=aM dM;have HI:=aa hi0;have HZ0:=aa hz0;have HZ1:=aa hz1;have HZ2:=aa hz2;obtain⟨j0,hj0,hy0,hy1,hy2⟩:=aM lX;have HJ:=aa hj0;have HY0:=aa hy0;have HY1:=aa hy1;have HY2:=aa hy2;clear hi0 hz0 hz1 hz2 hj0 hy0 hy1 hy2;obtain⟨bd,hbd⟩:∃z,w.heap.size=z:=⟨_,rfl⟩;have hb1:Below w.heap.size w (w.alloc (.map #[] 0)):=(Below.refl _ _).alloc (Nat.le_refl _) _;have h1:=h.below hb1;obtain⟨w2,hr2,hrg2,hg2,hs2⟩:=h1.mnb.range Tryz.underlying179
 have hb2:Below (w.alloc (.map #[] 0)).heap.size (w.alloc (.map #[] 0)) w2:=⟨hg2.os,hg2.tape,hg2.output,hg2.size,fun i hi=>hg2.block i hi (by simp)⟩;have y1:=(aY h1.box).2.1;have hdm:kn (w.alloc (.map #[] 0)) bd []:=by
  have:kn (w.alloc (.map #[] 0)) w.heap.size []:=cK _ w;rw[hbd]at this;exact this
 have HC0:Hid (rf l nb w bd (.slice none 0 0) (.slice none 0 0) [] [] [] w2):=aa (rf.start (hdm.kept (aI hb2) (by simp)) (aq hb1 hb2));have HRG:=aa hrg2;have HQ:=aa h;have HN:=aa hn;have HBD:=aa (Nat.le_of_eq hbd);have hrb0:(w.alloc (.map #[] 0)).heap.size=bd+1:=by simp[hbd]
 have HRB0:=aa hrb0;have HBDE:=aa hbd;clear hb1 h1 hrg2 hg2 hs2 hb2 hdm h hn hrb0 hbd;go_enter Tryz.func41,Tryz.ntmps41;go_wp2_with fail;rw[HBDE.out];clear hr2 y1;rw[HRB0.out]at HRG;obtain⟨rb,hrb⟩:∃z,bd+1=z:=⟨_,rfl⟩;have HRB:Hid (w.heap.size≤rb∧bd<rb):=aa (by have:=HBD.out;omega);rw[hrb]at HRG ⊢;clear hrb
 go_loopw [2,3] (fun vo vr wr=>∃(uo ur:Value)(outs rims:List (Value×List BA))(dl:List (Pr×Value))(left:BA→Bool)(ja:Nat),uo=vo∧ur=vr∧Hid (rf l nb w bd uo ur outs rims dl wr)∧Hid (bD (strKeys Tryz.prog 9 Tryz.underlying9) wr bn rb ln left ja)∧Hid (∀v,left v=false→∀u,aJ ln v=some u→∀y∈nb v,(aJ dl (v,y)).isSome=true)) (fun _ _ wr=>wr.rangeLeft bn rb)
 case atStart=>exact⟨_,_,[],[],[],_,_,rfl,rfl,HC0,HRG,aa (fun v hv u hu=>by rw[hu]at hv;cases hv)⟩
 case round=>
  clear HC0 HRG;obtain⟨uo,ur,outs,rims,dl,left,ja,rfl,rfl,hci,hrg,hdn⟩:=hrel;rcases hrg.out.next with⟨hc0,hl0,hnx⟩|⟨v,u,w5,cnt',hok,hlx,hgx,hnx,hrg5,hlt5,hg5,hs5,hen⟩
  ·have HCL:Hid (DK l nb (outs.map Prod.snd++rims.map Prod.snd)):=aa (hci.out.cy.whole (nz hm hc) (fun s hs=>by
    obtain⟨u,hu,_⟩:=HQ.out.nbs s hs;refine hdn.out s.1 (hl0 s.1 ?_) u hu s.2 ((HN.out.mem _ _).2 hs);exact Nat.le_trans (hsz s hs) (by unfold maxLen;omega)))
   obtain⟨f1,f2,f3⟩:=p6 hci.out.cy;(have ho1:outs.length≤100000:=by rw[List.length_append,List.length_map,List.length_map]at f2;omega);(have hr1:rims.length≤100000:=by rw[List.length_append,List.length_map,List.length_map]at f2;omega);have ho2:∀x∈outs,x.2.length≤100000:=fun x hx=>Nat.le_trans (f3 x.2 (List.mem_append_left _ (List.mem_map.2 ⟨x,hx,rfl⟩))) O9;have hr2:∀x∈rims,x.2.length≤100000:=fun x hx=>Nat.le_trans (f3 x.2 (List.mem_append_right _ (List.mem_map.2 ⟨x,hx,rfl⟩))) O9
   have HSO:=aa (tc w.heap.size outs _ wr hci.out.co ho1 ho2);have HR2:=aa hr2;have HR1:=aa hr1;have HCI:=hci;clear hl0 hrg hdn hci hc0 f1 f2 f3 ho1 hr1 ho2 hr2;go_wp2_with fail;refine HSO.out.mono ?_;rintro _ w6 ⟨rfl,outs',hpm,ho6,hg6⟩;have hr6:=HCI.out.cr.beside HCI.out.co hg6 (fun b h1 h2=>HCI.out.ne b h2 h1);have HSR:=aa (tc w.heap.size rims _ w6 hr6 HR1.out HR2.out);have HO6:=aa ho6;have HR6:=aa hr6;have HPM:=aa hpm;have HB6:=aa (ak HCI.out.below hg6 (fun r e=>(aj HCI.out.co.own e).1))
   clear hpm ho6 hg6 hr6 HSO;go_wp2_with fail;refine HSR.out.mono ?_;rintro _ w7 ⟨rfl,rims',hpm2,hr7,hg7⟩;have ho7:=HO6.out.beside HR6.out hg7 HCI.out.ne;have hcl:=HCL.out.perm ((HPM.out.map Prod.snd).symm.append (hpm2.map Prod.snd).symm);have hfin:∃(os rs:List (Value×List BA)),kE w.heap.size os uo w7∧kE w.heap.size rs ur w7∧DK l nb (os.map Prod.snd++rs.map Prod.snd)∧(∀c∈os.map Prod.snd,0<tw (aw l c))∧(∀c∈rs.map Prod.snd,¬0<tw (aw l c))∧Below w.heap.size w w7:=
    ⟨outs',rims',ho7,hr7,hcl,fun c hc=>HCI.out.po c ((HPM.out.map Prod.snd).mem_iff.1 hc),fun c hc=>HCI.out.pr c ((hpm2.map Prod.snd).mem_iff.1 hc),ak HB6.out hg7 (fun r e=>(aj HCI.out.cr.own e).1)⟩
   have HFIN:=aa hfin;clear hpm2 hr7 hg7 ho7 hcl hfin HO6 HR6 HPM HCI HCL HB6 HSR HR1 HR2;go_wp2_with fail;go_ret2;obtain⟨os,rs,a1,a2,a3,a4,a5,a6⟩:=HFIN.out;exact⟨uo,ur,rfl,os,a1,rs,a2,a3,fun c x hx=>a4 c (List.mem_map.2 ⟨(x,c),hx,rfl⟩),fun c x hx=>a5 c (List.mem_map.2 ⟨(x,c),hx,rfl⟩),a6⟩
  ·have hall:=HQ.out.all v u hgx;obtain⟨mi,se,ei,ci,hit⟩:=dh hrg.out;have hci5:=hci.out.iter hg5 ⟨mi,se,ei,ci,hit⟩ HRB.out.1;have hst5:=hall.below hci5.below;obtain⟨Au,cu,rfl,hcu,_⟩:=id hst5;have hfew:=HQ.out.few v;obtain⟨n,hnn⟩:∃z,(nb v).length=z:=⟨_,rfl⟩;have HNN:=aa hnn;rw[hnn]at hst5 hcu hnx hen hfew;have HST:=aa hall;change ∀ty,(Instr.next (.pointer (some ⟨rb,0,none⟩)) false ty).run Tryz.prog wr= .ok (.tuple #[.bool true,.string v,.slice Au n cu]) w5 at hnx
   change (Instr.entry (.pointer (some ⟨rb,0,none⟩))).run Tryz.prog w5= .ok (.tuple #[.string v,.slice Au n cu]) w5 at hen;have HC5:=aa hci5;have HR5:=aa hrg5;have HM9:Hid (∀W,bD (strKeys Tryz.prog 9 Tryz.underlying9) W bn rb ln (fun y=>left y&& !decide (y=v)) cnt'→W.rangeLeft bn rb<wr.rangeLeft bn rb):=aa (fun W h=>by rw[h.left_eq,hrg.out.left_eq];exact hlt5);have HDN:=hdn;have HGX:=aa hgx;have HVS:Hid (∀y∈nb v,(v,y)∈an l):=aa (fun y hy=>(HN.out.mem _ _).1 hy)
   clear hall hit hci5 hst5 hrg5 hlt5 hg5 hs5 hdn hgx hci hrg hok hlx hnn;go_wp2_with fail;clear hnx hen
   go_loopw [2,3,24] (fun vo vr i wr=>∃(uo ur:Value)(outs rims:List (Value×List BA))(dl:List (Pr×Value))(j:Nat),uo=vo∧ur=vr∧j≤n∧i= .int .i64 j∧Hid (rf l nb w bd uo ur outs rims dl wr)∧Hid (bD (strKeys Tryz.prog 9 Tryz.underlying9) wr bn rb ln (fun y=>left y&& !decide (y=v)) cnt')∧Hid (∀v',left v'=false→∀u,aJ ln v'=some u→∀y∈nb v',(aJ dl (v',y)).isSome=true)∧Hid (∀y∈(nb v).take j,(aJ dl (v,y)).isSome=true)) (fun _ _ i _=>n-(intOf i).toNat)
   case atStart=>exact⟨_,_,outs,rims,dl,0,rfl,rfl,Nat.zero_le _,rfl,HC5,HR5,HDN,aa (fun y hy=>by simp at hy)⟩
   case round=>
    clear HC5 HR5 HDN;obtain⟨uo,ur,outs,rims,dl,j,rfl,rfl,hj,rfl,hci,hrg,hdn,hdj⟩:=hrel;by_cases hlt:j<n
    ·(have hltb:j<(nb v).length:=by rw[HNN.out];exact hlt);have hnj:(nb v)[j]? =some (nb v)[j]:=List.getElem?_eq_getElem hltb;have hvs:=HVS.out _ (List.getElem_mem hltb);have hTK:∀y∈(nb v).take (j+1),y∈(nb v).take j∨y=(nb v)[j]:=fun y hy=>by
      rw[List.take_add_one,hnj]at hy;rcases List.mem_append.1 hy with h|h
      ·exact .inl h
      ·exact .inr (by simpa using h)
     have hstw:=HST.out.below hci.out.below;obtain⟨Au2,cu2,hAu,_,hAA⟩:=hstw;rw[Value.slice.injEq]at hAu;obtain⟨rfl,hAu2,rfl⟩:=hAu;clear hAu2;obtain⟨g,o,rfl,_,hp⟩:=hAA.resolve_left (fun e=>by rw[e]at hltb;simp at hltb);have e1:=hp j _ hnj;have HTK:=aa hTK;generalize (nb v)[j]=y at*;have k0:(0:Int)≤j:=O9;have k1:(j:Int)<n:=O9;have HLT:=aa hlt;obtain⟨s0,hs0⟩:∃z,((v,y):eM)=z:=⟨_,rfl⟩;have HS0:=aa hs0;have HVS0:Hid (s0∈an l):=aa (by rw[←hs0];exact hvs)
     obtain⟨W3,hW3⟩:∃z,wr.alloc (.cells #[.string v,.string y] 114)=z:=⟨_,rfl⟩;(have hb3:Below wr.heap.size wr W3:=by rw[←hW3];exact(Below.refl _ _).alloc (Nat.le_refl _) _);(have hx3:W3.heap[wr.heap.size]? =some (.cells #[.string s0.1,.string s0.2] 114 (0,0)):=by rw[←hW3,←hs0];exact heap_alloc_new _ _);have HCW:=hci;have HC3:=aa (hci.out.lift hb3);have HX3:=aa hx3;have HR3:=aa (hrg.out.kept (aI hb3) (by simp) (by simp));have HDN:=hdn;have HDJ:=hdj;have HW3:=aa hW3
     obtain⟨d0,hd0⟩:∃z,dl.length=z:=⟨_,rfl⟩;have HD0:=aa hd0;have hd0l:d0≤500:=by
      rw[←hd0];exact Nat.le_trans hci.out.dn (Nat.le_trans (p6 hci.out.cy).1 hst)
     have HZ3:Hid (W3.heap.size=wr.heap.size+1):=aa (by rw[←hW3];simp);obtain⟨b3,hb3s⟩:∃z,wr.heap.size=z:=⟨_,rfl⟩;have HB3S:=aa hb3s;rw[hb3s]at HX3 HZ3;have HBW:Hid (w.heap.size≤b3):=aa (by rw[←hb3s];exact hci.out.below.size);clear hltb hnj hvs hTK hp hAA hci hrg hdn hdj hb3 hx3 hW3 hd0 hlt hs0 hb3s;go_wp2_with fail;rw[HW3.out,HB3S.out];clear e1 HW3 HB3S
     go_loopw [9,10] (fun cv sp wr=>∃(uc us:Value)(k bs:Nat)(dl':List (Pr×Value)),uc=cv∧us=sp∧us= .pointer (some ⟨bs,0,none⟩)∧Hid (b3≤bs∧bs<wr.heap.size)∧Hid (wr.ownsRow (b3+1) 9 1 uc k ((bA nb s0 k).map .string))∧Hid (wr.heap[bs]? =some (.cells #[.string (ib nb s0 k).1,.string (ib nb s0 k).2] 114 (0,0)))∧Hid (kj nb (fun s=>(aJ dl s).isSome=true) s0 k)∧Hid (∀t,(aJ dl' t).isSome=true↔((aJ dl t).isSome=true∨∃i,i<k∧t=ib nb s0 i))∧Hid (∀s v,aJ dl' s=some v→v= .bool true)∧Hid (dl'.length≤d0+k)∧Hid (kn wr bd dl')∧Hid (W3.grownBy wr (some bd))) (fun cv _ _=>501-lenOf cv)
     case atStart=>exact⟨_,_,0,b3,dl,rfl,rfl,rfl,aa (by have:=HZ3.out;omega),aa (World.ownsRow_nil _ _ _ _),HX3,kj.start _ _ _,aa (fun t=>by simp),aa HC3.out.tr,aa (by rw[HD0.out];omega),aa HC3.out.dm,World.grownBy.refl _ _⟩
     case round=>
      clear HX3;obtain⟨uc,us,k,bs,dl',rfl,hus,rfl,hbs,hrow,hbx,hwk,hdd,htr,hln,hdm,hgr⟩:=hrel;subst hus;have hkle:=hwk.out.le HN.out HVS0.out;have hmem:=ic HN.out HVS0.out k;have hka:=hsz _ hmem;have hkb:=hsz _ (bI.2 hmem);have hsucc:ib nb s0 (k+1)=gw nb (ib nb s0 k):=rfl;have hfs:=vT nb s0 k;change (ib nb s0 k).2.size≤100000 at hkb;obtain⟨⟨sa,sb⟩,hsab⟩:∃z,ib nb s0 k=z:=⟨_,rfl⟩;rw[hsab]at hmem hka hkb hbx hsucc hfs;simp only at hka hkb hfs;have lk:=IL hdm.out htr.out sa sb ⟨hka,hkb⟩
      obtain⟨⟨y0,y1⟩,_⟩:=aW hbx.out;have hbe:Below w.heap.size w wr:=ak HC3.out.below hgr.out (fun r e=>by cases e;exact HBD.out);cases hd:(aJ dl' (sa,sb)).isSome with
      |true=>
       rw[hd]at lk;have he:=(hdd.out (sa,sb)).1 hd;rw[←hsab]at he;have hend:=hwk.out.done (cs:=outs.map Prod.snd++rims.map Prod.snd) HC3.out.cy HN.out HVS0.out he;have HDN2:Hid (∀v',left v'=false→∀u,aJ ln v'=some u→∀y∈nb v',(aJ dl' (v',y)).isSome=true):=aa (fun v' h1 u h2 y hy=>(hdd.out _).2 (.inl (HDN.out v' h1 u h2 y hy)));have hsd:(aJ dl' s0).isSome=true:=by
        rcases hend with⟨_,h⟩|⟨h0,_⟩
        ·exact(hdd.out s0).2 (.inl h)
        ·exact(hdd.out s0).2 (.inr ⟨0,h0,rfl⟩)
       have HDJ2:Hid (∀y∈(nb v).take (j+1),(aJ dl' (v,y)).isSome=true):=aa (fun z hz=>by
        rcases HTK.out z hz with h|h
        ·exact(hdd.out _).2 (.inl (HDJ.out z h))
        ·rw[h,HS0.out];exact hsd)
       have HRW2:Hid (bD (strKeys Tryz.prog 9 Tryz.underlying9) wr bn rb ln (fun y=>left y&& !decide (y=v)) cnt'):=aa (HR3.out.kept hgr.out (fun e=>by
        have h1:=HQ.out.mnb.lt;have:=Option.some.inj e;have:=HBD.out;omega) (fun e=>by
        have:=Option.some.inj e;have:=HRB.out.2;omega))
       rcases hend with⟨h0,h1⟩|⟨h0,hcd⟩
       ·subst h0;have HCN:=aa (HC3.out.walked hgr.out HBD.out hdm.out htr.out (fun t=>by
         rw[hdd.out t];exact⟨.inl,fun h=>h.elim id (fun⟨i,hi,_⟩=>absurd hi (Nat.not_lt_zero i))⟩) (by rw[HD0.out];have:=hln.out;omega))
        obtain⟨Ac,cc,rfl⟩:∃A c,uc= .slice A 0 c:=by
         rcases hrow.out.2 with⟨e,_⟩|⟨g,cap,_,e,_⟩
         ·exact⟨_,_,e⟩
         ·exact⟨_,_,e⟩
        clear hdd htr hln hdm hgr hrow hbx hwk he hsd h1 hd hkle hmem hka hkb hsucc hfs hsab hbe hbs;go_wp2_with fail;have hlt:=HLT.out;refine⟨⟨_,_,_,_,dl',j+1,rfl,rfl,O9,by go_num,HCN,HRW2,HDN2,HDJ2⟩,?_⟩;simp[intOf];omega
       ·obtain⟨gc,cc,rfl⟩:=fv hrow.out h0;have hcl:=iL nb s0 k;(have hcne:bA nb s0 k≠[]:=fun e=>by rw[e]at hcl;simp at hcl;omega);have hcy:=hcd.cyc _ (List.mem_cons_self ..);have hmc:∀t∈bA nb s0 k,t.size≤maxLen∧∃z∈an l,z.1=t:=fun t ht=>by
         obtain⟨i,_,rfl⟩:=List.mem_map.1 ht;have:=ic HN.out HVS0.out i;exact⟨Nat.le_trans (hsz _ this) (by unfold maxLen;omega),_,this,rfl⟩
        have HPT:=aa (mN l nb P wr x ba bn bp sv la ln lp (HQ.out.below hbe) (bA nb s0 k) (.slice (some ⟨gc,0,none⟩) k cc) (cT hrow.out hcl.symm) O9 hmc);have hnp:∀p∈bF l (bA nb s0 k),gW p:=fun p hp=>by
         obtain⟨t,ht,rfl⟩:=List.mem_map.1 hp;obtain⟨_,z,hz,rfl⟩:=hmc t ht;have:=ef hm hz;unfold gW;omega
        (have hpl:(bF l (bA nb s0 k)).length=k:=by rw[eJ,hcl]);have HCL:=aa hcl;have HTW:=aa (fun g c (W:World)(hg:g<W.heap.size)(hp:eI W g (bF l (bA nb s0 k)))=>lT g c (bF l (bA nb s0 k)) W O9 O9 hnp hg hp);rw[←dB,hpl]at HTW;have HPL:=aa hpl;have HRW0:=aa hrow.out
        have HLE:=aa (fun(W:World)(hW:wr.heap.size≤W.heap.size∧W.ownsRow (b3+1) 9 1 (.slice (some ⟨gc,0,none⟩) k cc) k ((bA nb s0 k).map .string))=>zD (b3+1) (bA nb s0 k) hcne O9 (.slice (some ⟨gc,0,none⟩) k cc) W (by have:=hbs.out;omega) (by rw[hcl];exact hW.2));have HCO:=aa (HC3.out.co.map hgr.out (aC HC3.out.dm));have HCR:=aa (HC3.out.cr.map hgr.out (aC HC3.out.dm));have HNE:=aa HC3.out.ne;have HDM:=hdm;have HTR:=htr;have HCD:=aa (hcd.congr (done':=fun s=>(aJ dl' s).isSome=true) (fun t=>(hdd.out t).symm))
        have HDL:Hid (dl'.length≤((outs.map Prod.snd++rims.map Prod.snd).flatMap bE).length+(bA nb s0 k).length):=aa (by
         have h1:=hln.out;have h2:=HC3.out.dn;rw[HD0.out]at h2;rw[hcl];omega)
        have HPO:=aa HC3.out.po;have HPR:=aa HC3.out.pr;have HBE:=aa hbe;have HLEN:Hid (outs.length≤1000∧rims.length≤1000):=aa (by
         have:=(p6 HC3.out.cy).2.1;rw[List.length_append,List.length_map,List.length_map]at this;omega)
        have hk0:¬(k:Int)=0:=O9;have hk1:((k:Int) ==0)=false:=beq_eq_false_iff_ne.2 hk0;clear hdd htr hln hdm hgr hrow hbx hwk he hsd hd hkle hmem hka hkb hsucc hfs hsab hbe hcl hcne hcy hmc hnp hpl hcd hbs;go_wp2_with fail;refine HPT.out.mono ?_;rintro _ w6 ⟨Ap,cp,rfl,hpn⟩;obtain⟨gp,rfl,_,hgp,hpa⟩:=hpn.pts (by rw[HPL.out];exact h0);rw[HPL.out];have HTC:=aa (HTW.out gp cp w6 hgp hpa);have HB6:=aa hpn.below;clear hgp hpa hpn HPT HTW;go_wp2_with fail;refine HTC.out.mono ?_;rintro _ wt ⟨rfl,hbt⟩
        have HBT:=aa (aq HB6.out hbt);have HRW:Hid (wr.heap.size≤wt.heap.size∧wt.ownsRow (b3+1) 9 1 (.slice (some ⟨gc,0,none⟩) k cc) k ((bA nb s0 k).map .string)):=aa ⟨HBT.out.size,ao HRW0.out HBT.out⟩;clear hbt HTC HB6;by_cases htw:0<tw (aw l (bA nb s0 k))
        ·obtain⟨TW,hTW⟩:∃z,tw (aw l (bA nb s0 k))=z:=⟨_,rfl⟩;have HTWE:=aa hTW;rw[hTW]at htw ⊢;clear hTW;go_wp2_with fail;rw[←HTWE.out]at htw;clear HTWE;refine(HLE.out wt HRW.out).mono ?_;rintro _ w8 ⟨v8,i,rfl,hi8,ho8,hb8⟩;have ho8l:=uC ho8 (B':=w.heap.size) (by have:=HBW.out;omega);obtain⟨g8,c8,rfl⟩:=fv ho8l (by rw[gP hi8];exact Nat.pos_of_ne_zero (fun e=>by rw[HCL.out]at e;omega));obtain⟨n8,hn8⟩:∃z,(dt (bA nb s0 k) i).length=z:=⟨_,rfl⟩;have HN8:=aa hn8
         have HO8:Hid (w8.ownsRow w.heap.size 9 1 (.slice (some ⟨g8,0,none⟩) n8 c8) n8 ((dt (bA nb s0 k) i).map .string)):=aa (by rw[hn8]at ho8l;exact ho8l);have HI8:=aa hi8;have hbb8:Below w8.heap.size w8 (w8.alloc (.cells #[.slice (some ⟨g8,0,none⟩) n8 c8] 39)):=(Below.refl _ _).alloc (Nat.le_refl _) _;have HWW:Hid (Below wr.heap.size wr (w8.alloc (.cells #[.slice (some ⟨g8,0,none⟩) n8 c8] 39))):=aa (aq (aq HBT.out hb8) hbb8);have HCO9:=aa ((HCO.out.below HWW.out))
         have HCR9:=aa ((HCR.out.below HWW.out));have HO9:=aa (ao HO8.out hbb8);have HDM9:Hid (kn (w8.alloc (.cells #[.slice (some ⟨g8,0,none⟩) n8 c8] 39)) bd dl'):=aa (HDM.out.kept (aI HWW.out) (by simp));have HBE9:Hid (Below w.heap.size w (w8.alloc (.cells #[.slice (some ⟨g8,0,none⟩) n8 c8] 39))):=aa (HBE.out.trans (HWW.out.mono HBE.out.size));rw[hn8];clear hi8 ho8 ho8l hb8 hn8 hbb8
         go_wp2_with (at_builtin;go_must (refine wpList_append_lies _ rfl _ _ 40 rfl w.heap.size 39 j0 (.slice none 0 0) 1 24 Tryz.underlying40 HJ.out HY0.out HY1.out HY2.out rfl (by decide) uo outs.length (outs.map Prod.fst) rfl HCO9.out.own ⟨w8.heap.size,0,none⟩ 1 1 [.slice (some ⟨g8,0,none⟩) n8 c8] rfl rfl ?c1 ?c2 (by decide) ?c3 ?c4 ?c5 (w8.heap.size+1) ?c6 ?_))
         case c1=>exact fun jj u hj=>World.news_of_block (cs:=#[.slice (some ⟨g8,0,none⟩) n8 c8]) (t:=39) (fr:=(0,0)) (heap_alloc_new w8 _) jj u hj
         case c2=>first|rfl|(intro u hu;simp at hu;rw[hu];rfl)
         case c3=>have:=HLEN.out;unfold maxLen;omega
         case c4=>have:=HLEN.out;omega
         case c5=>exact HBE9.out.size
         case c6=>simp
         intro g9 cap9 w10 hown10 hgrow10 hat10 _;have HCN:Hid (rf l nb w bd (.slice (some ⟨g9,0,none⟩) (outs.length+1) cap9) ur (outs++[((.slice (some ⟨g8,0,none⟩) n8 c8:Value),dt (bA nb s0 k) i)]) rims dl' w10):=aa (rf.addO HCO9.out HCR9.out HNE.out HDM9.out HCD.out HTR.out HDL.out HPO.out (fun d hd=>Int.not_lt.2 (HPR.out d hd)) HBE9.out HI8.out (by rw[HN8.out];exact HO9.out) htw hgrow10 hown10 (fun b hb=>by
          have e:=Option.some.inj (show some g9=some b from hb);rcases hat10 with g|g
          ·exact .inl (by rw[←e];exact g)
          ·exact .inr (by rw[←e,g];simp)))
         have HRN:Hid (bD (strKeys Tryz.prog 9 Tryz.underlying9) w10 bn rb ln (fun y=>left y&& !decide (y=v)) cnt'):=aa ((HRW2.out.kept (aI HWW.out) (by simp) (by simp)).kept hgrow10 (fun e=>aH HCO9.out.own (aC (HRW2.out.kept (aI HWW.out) (by simp) (by simp)).map) e.symm) (fun e=>bZ HCO9.out.own (dh (HRW2.out.kept (aI HWW.out) (by simp) (by simp))) e.symm));clear hown10 hgrow10 hat10 HCO9 HCR9 HO9 HDM9 HBE9 HWW HO8;go_wp2_with fail;have hlt:=HLT.out
         refine⟨⟨_,_,_,_,dl',j+1,rfl,rfl,O9,by go_num,HCN,HRN,HDN2,HDJ2⟩,?_⟩;simp[intOf];omega
        ·obtain⟨TW,hTW⟩:∃z,tw (aw l (bA nb s0 k))=z:=⟨_,rfl⟩;have HTWE:=aa hTW;rw[hTW]at htw ⊢;clear hTW;go_wp2_with fail;rw[←HTWE.out]at htw;clear HTWE;refine(HLE.out wt HRW.out).mono ?_;rintro _ w8 ⟨v8,i,rfl,hi8,ho8,hb8⟩;have ho8l:=uC ho8 (B':=w.heap.size) (by have:=HBW.out;omega);obtain⟨g8,c8,rfl⟩:=fv ho8l (by rw[gP hi8];exact Nat.pos_of_ne_zero (fun e=>by rw[HCL.out]at e;omega));obtain⟨n8,hn8⟩:∃z,(dt (bA nb s0 k) i).length=z:=⟨_,rfl⟩;have HN8:=aa hn8
         have HO8:Hid (w8.ownsRow w.heap.size 9 1 (.slice (some ⟨g8,0,none⟩) n8 c8) n8 ((dt (bA nb s0 k) i).map .string)):=aa (by rw[hn8]at ho8l;exact ho8l);have HI8:=aa hi8;have hbb8:Below w8.heap.size w8 (w8.alloc (.cells #[.slice (some ⟨g8,0,none⟩) n8 c8] 39)):=(Below.refl _ _).alloc (Nat.le_refl _) _;have HWW:Hid (Below wr.heap.size wr (w8.alloc (.cells #[.slice (some ⟨g8,0,none⟩) n8 c8] 39))):=aa (aq (aq HBT.out hb8) hbb8);have HCO9:=aa ((HCO.out.below HWW.out))
         have HCR9:=aa ((HCR.out.below HWW.out));have HO9:=aa (ao HO8.out hbb8);have HDM9:Hid (kn (w8.alloc (.cells #[.slice (some ⟨g8,0,none⟩) n8 c8] 39)) bd dl'):=aa (HDM.out.kept (aI HWW.out) (by simp));have HBE9:Hid (Below w.heap.size w (w8.alloc (.cells #[.slice (some ⟨g8,0,none⟩) n8 c8] 39))):=aa (HBE.out.trans (HWW.out.mono HBE.out.size));rw[hn8];clear hi8 ho8 ho8l hb8 hn8 hbb8
         go_wp2_with (at_builtin;go_must (refine wpList_append_lies _ rfl _ _ 40 rfl w.heap.size 39 j0 (.slice none 0 0) 1 24 Tryz.underlying40 HJ.out HY0.out HY1.out HY2.out rfl (by decide) ur rims.length (rims.map Prod.fst) rfl HCR9.out.own ⟨w8.heap.size,0,none⟩ 1 1 [.slice (some ⟨g8,0,none⟩) n8 c8] rfl rfl ?c1 ?c2 (by decide) ?c3 ?c4 ?c5 (w8.heap.size+1) ?c6 ?_))
         case c1=>exact fun jj u hj=>World.news_of_block (cs:=#[.slice (some ⟨g8,0,none⟩) n8 c8]) (t:=39) (fr:=(0,0)) (heap_alloc_new w8 _) jj u hj
         case c2=>first|rfl|(intro u hu;simp at hu;rw[hu];rfl)
         case c3=>have:=HLEN.out;unfold maxLen;omega
         case c4=>have:=HLEN.out;omega
         case c5=>exact HBE9.out.size
         case c6=>simp
         intro g9 cap9 w10 hown10 hgrow10 hat10 _;have HCN:Hid (rf l nb w bd uo (.slice (some ⟨g9,0,none⟩) (rims.length+1) cap9) outs (rims++[((.slice (some ⟨g8,0,none⟩) n8 c8:Value),dt (bA nb s0 k) i)]) dl' w10):=aa (rf.addR HCO9.out HCR9.out HNE.out HDM9.out HCD.out HTR.out HDL.out HPO.out (fun d hd=>Int.not_lt.2 (HPR.out d hd)) HBE9.out HI8.out (by rw[HN8.out];exact HO9.out) (Int.not_lt.2 htw) hgrow10 hown10 (fun b hb=>by
          have e:=Option.some.inj (show some g9=some b from hb);rcases hat10 with g|g
          ·exact .inl (by rw[←e];exact g)
          ·exact .inr (by rw[←e,g];simp)))
         have HRN:Hid (bD (strKeys Tryz.prog 9 Tryz.underlying9) w10 bn rb ln (fun y=>left y&& !decide (y=v)) cnt'):=aa ((HRW2.out.kept (aI HWW.out) (by simp) (by simp)).kept hgrow10 (fun e=>aH HCR9.out.own (aC (HRW2.out.kept (aI HWW.out) (by simp) (by simp)).map) e.symm) (fun e=>bZ HCR9.out.own (dh (HRW2.out.kept (aI HWW.out) (by simp) (by simp))) e.symm));clear hown10 hgrow10 hat10 HCO9 HCR9 HO9 HDM9 HBE9 HWW HO8;go_wp2_with fail;have hlt:=HLT.out
         refine⟨⟨_,_,_,_,dl',j+1,rfl,rfl,O9,by go_num,HCN,HRN,HDN2,HDJ2⟩,?_⟩;simp[intOf];omega
      |false=>
       rw[hd]at lk;have hlen4:=hln.out;obtain⟨W4,hst4,hml4,htu4⟩:=hdm.out.store Tryz.underlying191 (by unfold maxLen;omega) (x:=(sa,sb)) ⟨hka,hkb⟩ (.bool true);change (Instr.mapUpdate 191 (.map (some bd)) (.agg #[.string sa,.string sb]) (.bool true)).run _ _=_ at hst4;have hbx4:=fQ htu4.grown hbx.out (fun e=>ki (aC hdm.out) hbx.out (Option.some.inj e).symm);obtain⟨⟨z0,z1⟩,_⟩:=aW hbx4;have hrow4:=bG hrow.out htu4.grown (fun b hb e=>aH hrow.out (aC hdm.out) (by rw[hb,e]))
       have hba:Below W4.heap.size W4 (W4.alloc (.cells #[.string sa] 9)):=(Below.refl _ _).alloc (Nat.le_refl _) _;have HROW5:=aa (ao hrow4 hba);have HBX5:=aa (ai hba hbx4);have HML5:Hid (kn (W4.alloc (.cells #[.string sa] 9)) bd (cR dl' (sa,sb) (.bool true))):=aa (hml4.kept (aI hba) (by simp));have HGR5:Hid (W3.grownBy (W4.alloc (.cells #[.string sa] 9)) (some bd)):=aa (td (td hgr.out htu4.grown (fun r e=>.inl (Option.some.inj e).symm)) (aI hba) (by simp))
       have HS5:Hid (wr.heap.size≤W4.heap.size):=aa htu4.grown.size;have HNW:Hid (∀(jj:Nat)(u:Value),[(Value.string sa)][jj]? =some u→(W4.alloc (.cells #[.string sa] 9)).cell? ((⟨W4.heap.size,0,none⟩:Addr).add jj)=some u):=aa (fun jj u hj=>World.news_of_block (cs:=#[.string sa]) (t:=9) (fr:=(0,0)) (heap_alloc_new W4 _) jj u hj);have hn1:¬((aJ dl s0).isSome=true∧False):=fun h=>h.2;have hdn':¬((aJ dl (sa,sb)).isSome=true∨∃i,i<k∧(sa,sb)=ib nb s0 i):=fun h=>by
        have:=(hdd.out (sa,sb)).2 h;rw[hd]at this;cases this
       have HWK:Hid (kj nb (fun s=>(aJ dl s).isSome=true) s0 (k+1)):=aa (hwk.out.next (by rw[hsab];exact fun h=>hdn' (.inl h)) (fun i hi=>by rw[hsab];exact fun h=>hdn' (.inr ⟨i,hi,h⟩)));have HDD:Hid (∀t,(aJ (cR dl' (sa,sb) (.bool true)) t).isSome=true↔((aJ dl t).isSome=true∨∃i,i<k+1∧t=ib nb s0 i)):=aa (fun t=>by
        rw[cC];by_cases e:t=(sa,sb)
        ·rw[if_pos e];exact⟨fun _=>.inr ⟨k,Nat.lt_succ_self k,by rw[e,hsab]⟩,fun _=>rfl⟩
        ·rw[if_neg e,hdd.out t];constructor
         ·rintro(h|⟨i,hi,h⟩)
          ·exact .inl h
          ·exact .inr ⟨i,O9,h⟩
         ·rintro(h|⟨i,hi,h⟩)
          ·exact .inl h
          ·by_cases g:i=k
           ·rw[g,hsab]at h;exact absurd h e
           ·exact .inr ⟨i,O9,h⟩)
       have HTR:Hid (∀s v,aJ (cR dl' (sa,sb) (.bool true)) s=some v→v= .bool true):=aa (fun s v hv=>by
        rw[cC]at hv;by_cases e:s=(sa,sb)
        ·rw[if_pos e]at hv;exact(Option.some.inj hv).symm
        ·rw[if_neg e]at hv;exact htr.out s v hv)
       have HLN:Hid ((cR dl' (sa,sb) (.bool true)).length≤d0+(k+1)):=aa (by rw[dF];split<;>omega);have HMEM:=aa hmem;have HSUC:=aa hsucc;have HFS:=aa hfs;have HKL:=aa hkle;have HLK:=aa (te hrow.out);have HBS:=hbs;have HKB:=aa hkb;clear hdd htr hln hdm hgr hrow hbx hwk hd hkle hmem hka hkb hsucc hfs hsab hbe hml4 htu4 hbx4 hrow4 hba hn1 hdn' hlen4 hbs
       go_wp2_with (at_builtin;go_must (refine wpList_append_own _ rfl _ _ 39 rfl (b3+1) 9 i0 (.string ⟨#[]⟩) 1 16 Tryz.underlying39 HI.out HZ0.out HZ1.out HZ2.out rfl (by decide) uc k ((bA nb s0 k).map .string) rfl HROW5.out ⟨W4.heap.size,0,none⟩ 1 1 [.string sa] rfl rfl HNW.out ?c2 ?c3 ?c4 ?c5 ?_))
       case c2=>first|rfl|(intro u hu;simp at hu;rw[hu];rfl)
       case c3=>have:=HKL.out;unfold maxLen;omega
       case c4=>have:=HKL.out;omega
       case c5=>have h1:=HBS.out;have h2:=HS5.out;simp;omega
       intro v6 w6 hown6 hgrow6 _;have hbx6:=fQ hgrow6 HBX5.out (fun e=>by
        obtain⟨_,cur,hcc⟩:=bK HROW5.out e;rw[HBX5.out]at hcc;cases hcc)
       obtain⟨⟨q0,q1⟩,_⟩:=aW hbx6;obtain⟨w7,hw7⟩:∃z,w6.alloc (.cells #[.string sa,.string sb] 114)=z:=⟨_,rfl⟩;(have hb7:Below w6.heap.size w6 w7:=by rw[←hw7];exact(Below.refl _ _).alloc (Nat.le_refl _) _);(have hx7:w7.heap[w6.heap.size]? =some (.cells #[.string sa,.string sb] 114 (0,0)):=by rw[←hw7];exact heap_alloc_new _ _);have hg6:=td HGR5.out hgrow6 (fun r e=>.inr (by have:=(aj HROW5.out e).1;have:=HZ3.out;omega));have hg7:=td hg6 (aI hb7) (by simp)
       have hbe7:Below w.heap.size w w7:=ak HC3.out.below hg7 (fun r e=>by cases e;exact HBD.out);obtain⟨⟨p0,p1⟩,_⟩:=aW hx7;have HAF:=aa (CZ l nb P w7 x ba bn bp sv la ln lp (HQ.out.below hbe7) HN.out (sa,sb) HMEM.out (HQ.out.few _) (Nat.le_trans HKB.out (by unfold maxLen;omega)));rw[←HSUC.out]at HAF;have HX7:=aa hx7;have HML7:=aa ((HML5.out.kept hgrow6 (fun e=>aH HROW5.out (aC HML5.out) e.symm)).kept (aI hb7) (by simp));have HO7:=aa (ao hown6 hb7)
       have HL7:Hid (∀b,v6.ownBlock=some b→b<w6.heap.size):=aa (fun b hb=>(aj hown6 hb).2);have HG7:=aa hg7;have HS7:Hid (b3+1≤w6.heap.size):=aa (by have h1:=HBS.out;have h2:=HS5.out;have h3:=hgrow6.size;simp at h3;omega);have HW7:=aa hw7;clear hown6 hgrow6 hbx6 hb7 hx7 hg6 hg7 hbe7 hw7 HROW5 HBX5 HML5 HGR5 HNW;go_wp2_with fail;rw[HW7.out];refine HAF.out.mono ?_;rintro _ w8 ⟨rfl,hb8⟩;obtain⟨na,hna⟩:∃z,(ib nb s0 (k+1)).1=z:=⟨_,rfl⟩;obtain⟨nc,hnc⟩:∃z,(ib nb s0 (k+1)).2=z:=⟨_,rfl⟩;have HNA:=aa hna
       have HNC:=aa hnc;rw[hna,hnc];have hx8:=ai hb8 HX7.out;obtain⟨⟨r0,r1⟩,r2,r3⟩:=aW hx8;have hfin:=p5 (u:=.string na) (v:=.string nc) hx8;have hone:∀(W:World)(i:Nat)(u:Value),W.grownBy (W.setCell ⟨w6.heap.size,i,none⟩ u) (some w6.heap.size):=fun W i u=>⟨rfl,rfl,rfl,by simp,fun k _ hne=>Below.heap_setCell W ⟨w6.heap.size,i,none⟩ u k (fun e=>hne (by rw[e]))⟩;have hg9:=bt (hone w8 0 (.string na)) (hone _ 1 (.string nc));have HFIN:=aa hfin
       have HG9:=aa (td (td HG7.out (aI hb8) (by simp)) hg9 (fun r e=>.inr (by cases e;have:=HZ3.out;have:=HS7.out;omega)));have HML9:=aa ((HML7.out.kept (aI hb8) (by simp)).kept hg9 (fun e=>ki (aC (HML7.out.kept (aI hb8) (by simp))) hx8 (Option.some.inj e).symm));have HO9:=aa (bG (ao HO7.out hb8) hg9 (fun b hb e=>by cases e;exact absurd (HL7.out _ hb) (Nat.lt_irrefl _)))
       have HS9:Hid (b3≤w6.heap.size∧w6.heap.size<((w8.setCell ⟨w6.heap.size,0,none⟩ (.string na)).setCell ⟨w6.heap.size,1,none⟩ (.string nc)).heap.size):=aa ⟨by have:=HS7.out;omega,lt_of_block hfin⟩;clear hb8 hna hnc hx8 hfin hone hg9 HX7 HML7 HO7 HL7 HG7 HAF HW7;go_wp2_with fail;refine⟨⟨v6,_,k+1,w6.heap.size,_,rfl,rfl,rfl,HS9,aa (by rw[HFS.out,List.map_append];exact HO9.out),aa (by rw[HNA.out,HNC.out];exact HFIN.out),HWK,HDD,HTR,HLN,HML9,HG9⟩,?_⟩;have h1:=te HO9.out;have h2:=HLK.out;have h3:=HKL.out
       omega
    ·(obtain rfl:j=n:=by omega);have k1:¬(j:Int)<(j:Nat):=O9;have HDN3:Hid (∀v',(left v'&& !decide (v'=v))=false→∀u,aJ ln v'=some u→∀y∈nb v',(aJ dl (v',y)).isSome=true):=aa (fun v' h1 u h2 y hy=>by
      by_cases e:v'=v
      ·subst e;have:=hdj.out y;rw[List.take_of_length_le (by rw[HNN.out];exact Nat.le_refl _)]at this;exact this hy
      ·exact hdn.out v' (by simpa[e]using h1) u h2 y hy)
     have HC3:=hci;have HR3:=hrg;clear hci hrg hdn hdj hlt;go_wp2_with fail;exact⟨⟨_,_,outs,rims,dl,_,cnt',rfl,rfl,HC3,HR3,HDN3⟩,HM9.out _ HR3.out⟩
