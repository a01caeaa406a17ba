/-
  The plane of a map, walked.
-/
import Derived.Test.YtfkgjbdeicggaaaGreatZf
set_option maxHeartbeats 16000000
set_option maxRecDepth 100000
namespace Go.Proofs.YtfkgjbdeicggaaaGreat
open Go.RowKit Go.Proofs.Px Go.Proofs.Pn Go.Proofs.Pm Go.Proofs.Pg Go.Proofs.Pto Go.Proofs.Pf
attribute [local go_sem] Oper.semAt_some run_makeMap
theorem Da{W:World}{x:Nat}{a b c d u:Value}{t:TypeId}(h:W.heap[x]? =some (.cells #[a,b,c,d] t (0,0))):(W.setCell ⟨x,3,none⟩ u).heap[x]? =some (.cells #[a,b,c,u] t (0,0))∧W.grownBy (W.setCell ⟨x,3,none⟩ u) (some x):=by
 refine⟨?_,rfl,rfl,rfl,by simp,fun k _ hne=>Below.heap_setCell W ⟨x,3,none⟩ _ k (fun e=>hne (by rw[e]))⟩;rw[Sort.setCell_eq];simp[Sort.mapBlock,Array.getElem?_modify,h,Sort.onCells]
theorem G9{W W':World}{x:Nat}{a b c:Option Nat}{t:TypeId}{v:Value}{S:List Sg}(h:Bd W v S)(hx:W.heap[x]? =some (.cells #[.map a,.map b,.map c,.slice none 0 0] t (0,0)))(hg:W.grownBy W' (some x)):Bd W' v S:=by
 obtain⟨A,cp,rfl,hA⟩:=h;refine⟨A,cp,rfl,hA.imp id ?_⟩;rintro⟨g,o,rfl,hgl,hp⟩;refine⟨g,o,rfl,Nat.lt_of_lt_of_le hgl hg.size,fun i s hi=>?_⟩;have key:∀ {j:Nat}{n:Int},W.cell? ⟨g,j,none⟩=some (.int .i64 n)→W'.cell? ⟨g,j,none⟩=some (.int .i64 n):=fun {j n} hc=>by
  have hne:g≠x:=fun e=>by
   subst e;obtain⟨y0,y1,y2,y3⟩:=aY hx
   match j with
   |0=>rw[y0]at hc;cases hc
   |1=>rw[y1]at hc;cases hc
   |2=>rw[y2]at hc;cases hc
   |3=>rw[y3]at hc;cases hc
   |j+4=>
    simp[World.cell?,hx]at hc
  rw[←hc];exact World.cell?_of_block (a:=⟨g,j,none⟩) (hg.block g hgl (fun e=>hne (Option.some.inj e)))
 obtain⟨h1,h2,h3,h4⟩:=hp i s hi;exact⟨key h1,key h2,key h3,key h4⟩
theorem s8(w:World):(zeroValue 9).run Tryz.prog w= .ok (.string ⟨#[]⟩) w:=K9
theorem Bm{l:List Ob}{s:BA}{o:Ob}(h:cA l s=some o):fc l s=o.refs:=by unfold fc;rw[h]
theorem gM{P:Program}{kt:TypeId}{K:Type}[DecidableEq K]{B:dS P kt K}{n0 ba bn bp:Nat}{w W:World}{b:Nat}{il:List (K×Value)}(h:JB n0 ba bn bp w W)(hm:dV B w b il)(hn:w.heap.size≤n0)(h1:b≠ba)(h2:b≠bn)(h3:b≠bp):dV B W b il:=hm.same (h.keep b (by have:=hm.lt;omega) h1 h2 h3)
theorem xr(l:List Ob)(v:Value)(w:World)(hv:fm w v l)(hm:aZ l=true)(hsm:dZ l)(hc:¬dA l):Calls Tryz.prog 40 #[.agg #[v]] w fun e w'=>∃(x ba bn bp:Nat)(sv:Value)(la ln lp:List (BA×Value))(nb:BA→List BA)(P:BA→BA),e= .returned (.pointer (some ⟨x,0,none⟩))∧Gd l nb P w' x ba bn bp sv la ln lp∧kD l nb∧tW l P∧Below w.heap.size w w':=by
 have hmx:Tryz.prog.follows .mixedOrders=true:=K9;have hu:=bP hm;have hbl:=e9 hsm;have hll:l.length≤20:=hsm.1;obtain⟨A,c,rfl,hcl,hA⟩:=id hv.obs;have HA:=aa hA;have HV:=aa hv;have HSG:=aa (fun(W:World)(hW:fm W (.slice A l.length c) l)=>mo l (.slice A l.length c) W hW hm hsm);clear hA hv;go_enter Tryz.func40,Tryz.ntmps40;go_upto_region 2 with(fail);obtain⟨ba,hba⟩:∃z,w.heap.size+1=z:=⟨_,rfl⟩;obtain⟨bn,hbn⟩:∃z,ba+1=z:=⟨_,rfl⟩;obtain⟨bp,hbp⟩:∃z,bn+1=z:=⟨_,rfl⟩;obtain⟨x,hx⟩:∃z,bp+1=z:=⟨_,rfl⟩
 obtain⟨bx,hbx⟩:∃z,x+1=z:=⟨_,rfl⟩;rw[hba,hbn,hbp,hx,hbx];obtain⟨Wm,hWm⟩:∃z,w.alloc (.cells #[.slice A l.length c] 24)=z:=⟨_,rfl⟩;obtain⟨Wa,hWa⟩:∃z,Wm.alloc (.map #[] 0)=z:=⟨_,rfl⟩;obtain⟨Wn,hWn⟩:∃z,Wa.alloc (.map #[] 0)=z:=⟨_,rfl⟩;obtain⟨Wp,hWp⟩:∃z,Wn.alloc (.map #[] 0)=z:=⟨_,rfl⟩;obtain⟨Wx,hWx⟩:∃z,Wp.alloc (.cells #[.map (some ba),.map (some bn),.map (some bp),.slice none 0 0] 182)=z:=⟨_,rfl⟩;obtain⟨W0,hW0⟩:∃z,Wx.alloc (.cells #[.pointer (some ⟨x,0,none⟩)] 105)=z:=⟨_,rfl⟩
 rw[hWm,hWa,hWn,hWp,hWx,hW0];have z1:Wm.heap.size=ba:=by rw[←hWm];simpa using hba
 have z2:Wa.heap.size=bn:=by rw[←hWa];simpa[z1]using hbn
 have z3:Wn.heap.size=bp:=by rw[←hWn];simpa[z2]using hbp
 have z4:Wp.heap.size=x:=by rw[←hWp];simpa[z3]using hx
 have z5:Wx.heap.size=bx:=by rw[←hWx];simpa[z4]using hbx
 have z6:W0.heap.size=bx+1:=by rw[←hW0];simp[z5]
 have b1:Below w.heap.size w Wm:=by rw[←hWm];exact(Below.refl _ _).alloc (Nat.le_refl _) _
 have b2:Below Wm.heap.size Wm Wa:=by rw[←hWa];exact(Below.refl _ _).alloc (Nat.le_refl _) _
 have b3:Below Wa.heap.size Wa Wn:=by rw[←hWn];exact(Below.refl _ _).alloc (Nat.le_refl _) _
 have b4:Below Wn.heap.size Wn Wp:=by rw[←hWp];exact(Below.refl _ _).alloc (Nat.le_refl _) _
 have b5:Below Wp.heap.size Wp Wx:=by rw[←hWx];exact(Below.refl _ _).alloc (Nat.le_refl _) _
 have b6:Below Wx.heap.size Wx W0:=by rw[←hW0];exact(Below.refl _ _).alloc (Nat.le_refl _) _
 have b56:=aq b5 b6;have b46:=aq b4 b56;have b36:=aq b3 b46;have b26:=aq b2 b36;have b16:=aq b1 b26;have m1:cE W0 ba []:=by
  have:cE Wa Wm.heap.size []:=by rw[←hWa];exact cK _ Wm
  rw[z1]at this;exact this.kept (aI b36) (by simp)
 have m2:cE W0 bn []:=by
  have:cE Wn Wa.heap.size []:=by rw[←hWn];exact cK _ Wa
  rw[z2]at this;exact this.kept (aI b46) (by simp)
 have m3:cE W0 bp []:=by
  have:cE Wp Wn.heap.size []:=by rw[←hWp];exact cK _ Wn
  rw[z3]at this;exact this.kept (aI b56) (by simp)
 have x0:W0.heap[x]? =some (.cells #[.map (some ba),.map (some bn),.map (some bp),.slice none 0 0] 182 (0,0)):=by
  have:=heap_alloc_new Wp (.cells #[.map (some ba),.map (some bn),.map (some bp),.slice none 0 0] 182);rw[hWx,z4]at this;exact ai b6 this
 have p0:W0.heap[bx]? =some (.cells #[.pointer (some ⟨x,0,none⟩)] 105 (0,0)):=by
  have:=heap_alloc_new Wx (.cells #[.pointer (some ⟨x,0,none⟩)] 105);rw[hW0,z5]at this;exact this
 have q0:W0.heap[w.heap.size]? =some (.cells #[.slice A l.length c] 24 (0,0)):=by
  have:=heap_alloc_new w (.cells #[.slice A l.length c] 24);rw[hWm]at this;exact ai b26 this
 have HNE:Hid (ba=w.heap.size+1∧bn=w.heap.size+2∧bp=w.heap.size+3∧x=w.heap.size+4∧bx=w.heap.size+5∧W0.heap.size=bx+1):=aa O9;clear hba hbn hbp hx hbx hWm hWa hWn hWp hWx hW0 z1 z2 z3 z4 z5 z6 b1 b2 b3 b4 b5 b6 b56 b46 b36 b26;obtain⟨wd,hwd⟩:∃z,W0.drew=z:=⟨_,rfl⟩;have hbd:Below W0.heap.size W0 wd:=by rw[←hwd];exact aA _
 have HBW:Hid (Below w.heap.size w wd):=aa (aq b16 hbd);have HMI0:Hid (fm wd (.slice A l.length c) l):=aa (HV.out.below HBW.out);have HM0:=aa (And.intro (ai hbd p0) (ai hbd q0));have HX0:=aa (ai hbd x0);have HMA:=aa (And.intro (m1.kept (aI hbd) (by simp)) (And.intro (m2.kept (aI hbd) (by simp)) (m3.kept (aI hbd) (by simp))));have HSZ:Hid (wd.heap.size=bx+1):=aa (by rw[←hwd];exact HNE.out.2.2.2.2.2)
 have HMC:Hid (∀W:World,(W.heap[bx]? =some (.cells #[.pointer (some ⟨x,0,none⟩)] 105 (0,0))∧W.heap[w.heap.size]? =some (.cells #[.slice A l.length c] 24 (0,0)))→W.cell? ⟨bx,0,none⟩=some (.pointer (some ⟨x,0,none⟩))∧W.cell? ⟨w.heap.size,0,none⟩=some (.slice A l.length c)):=aa (fun W hW=>⟨(cD hW.1).1,(cD hW.2).1⟩);clear hbd p0 q0 x0 m1 m2 m3 b16
 refine aU (fun W=>W.heap[bx]? =some (.cells #[.pointer (some ⟨x,0,none⟩)] 105 (0,0))∧W.heap[w.heap.size]? =some (.cells #[.slice A l.length c] 24 (0,0))) 8 hmx ?_;rw[hwd];clear hwd;simp only[List.size_toArray,List.length_cons,List.length_nil,Nat.reduceAdd];refine wk 0 (.pointer (some ⟨x,0,none⟩)) rfl (fun w hm=>by obtain⟨m0,m1⟩:=HMC.out w hm;clear m1;go_simp) ?_;refine wk 1 (.agg #[.slice A l.length c]) rfl (fun w hm=>by obtain⟨m0,m1⟩:=HMC.out w hm;clear m0;go_simp) ?_
 refine wr1 2 HM0.out rfl (fun K' hK=>?_);go_simp;go_at_call 18;refine(HSG.out _ HMI0.out).mono ?_;rintro _ w4 ⟨sv,ov,rfl,hs4,_,hb4⟩;obtain⟨As,cs,rfl,hsg4⟩:=hs4;have HM4:=aa (And.intro (ai hb4 HM0.out.1) (ai hb4 HM0.out.2));have HB4:=aa hb4;have HS4:Hid (Bd w4 (.slice As (dw l).length cs) (dw l)):=aa ⟨As,cs,rfl,hsg4⟩;have x4:=ai hb4 HX0.out;obtain⟨y0,y1,y2,y3⟩:=aY x4;have yf:w4.frozen? ⟨x,3,none⟩=false:=frozen_of_row w4 x 3 _ _ x4;clear hb4 hsg4 x4;refine hK _ _ ?_
 refine wkg 3 (.tuple #[.slice As (dw l).length cs,ov]) rfl ?_;refine wkg 4 (.slice As (dw l).length cs) rfl ?_;refine nU (i:=5) (v:=ov) rfl K9 K9 K9 K9 (fun _ _ _ h=>h) (.inl ⟨K9,fun w hm=>by go_simp⟩) ?_;refine nU (i:=6) (v:=.pointer (some ⟨x,0,none⟩)) rfl K9 K9 K9 K9 (fun _ _ _ h=>h) (.inl ⟨K9,fun w hm=>by go_simp⟩) ?_;refine wkg 7 (.pointer (some ⟨x,3,none⟩)) rfl ?_;refine wr1 8 HM4.out rfl (fun K' hK=>?_);go_simp;refine hK _ _ ?_;refine wdM ?_
 obtain⟨hset,hgs⟩:=Da (u:=.slice As (dw l).length cs) (ai HB4.out HX0.out);have hs2:=G9 HS4.out (ai HB4.out HX0.out) hgs;obtain⟨W2,hW2⟩:∃z,w4.setCell ⟨x,3,none⟩ (.slice As (dw l).length cs)=z:=⟨_,rfl⟩;rw[hW2]at hset hgs hs2 ⊢;have m1:cE W2 ba []:=(HMA.out.1.kept (aI HB4.out) (by simp)).kept hgs (fun e=>by have:=Option.some.inj e;have:=HNE.out;omega);have m2:cE W2 bn []:=(HMA.out.2.1.kept (aI HB4.out) (by simp)).kept hgs (fun e=>by have:=Option.some.inj e;have:=HNE.out;omega)
 have m3:cE W2 bp []:=(HMA.out.2.2.kept (aI HB4.out) (by simp)).kept hgs (fun e=>by have:=Option.some.inj e;have:=HNE.out;omega);have p2:W2.heap[bx]? =some (.cells #[.pointer (some ⟨x,0,none⟩)] 105 (0,0)):=fQ hgs HM4.out.1 (fun e=>by have:=Option.some.inj e;have:=HNE.out;omega);have q2:W2.heap[w.heap.size]? =some (.cells #[.slice A l.length c] 24 (0,0)):=fQ hgs HM4.out.2 (fun e=>by have:=Option.some.inj e;have:=HNE.out;omega)
 have HB2:Hid (Below w.heap.size w W2):=aa ((aq HBW.out HB4.out).grown hgs (Nat.le_trans HBW.out.size HB4.out.size) (fun k e=>by have:=Option.some.inj e;have:=HNE.out;omega));have HZ2:Hid (bx+1≤W2.heap.size):=aa (by rw[←HSZ.out];exact Nat.le_trans HB4.out.size hgs.size);clear hW2 HM4 HB4 HX0 HMA HS4 HMC HM0 HMI0 HBW HSZ hgs y0 y1 y2 y3 yf;obtain⟨bi,hbi⟩:∃z,W2.heap.size=z:=⟨_,rfl⟩;obtain⟨bo,hbo⟩:∃z,bi+1=z:=⟨_,rfl⟩
 have e1:∀o1 o2:Obj,((W2.alloc o1).alloc o2).cell? ⟨w.heap.size,0,none⟩=some (.slice A l.length c):=fun o1 o2=>
  (cD (ai (((Below.refl W2.heap.size W2).alloc (Nat.le_refl _) o1).alloc (by simp) o2) q2)).1
 obtain⟨W3,hW3⟩:∃z,(W2.alloc (.map #[] 0)).alloc (.map #[] 0)=z:=⟨_,rfl⟩;have hb3:Below W2.heap.size W2 W3:=by rw[←hW3];exact((Below.refl _ _).alloc (Nat.le_refl _) _).alloc (by simp) _
 have HMI:Hid (nN W3 bi []):=aa (by
  have h1:nN (W2.alloc (.map #[] 0)) W2.heap.size []:=cK _ W2;rw[hbi]at h1;rw[←hW3];exact h1.alloc _)
 have HMO:Hid (cE W3 bo []):=aa (by
  have h1:cE ((W2.alloc (.map #[] 0)).alloc (.map #[] 0)) (W2.alloc (.map #[] 0)).heap.size []:=cK _ _;rw[hW3]at h1;have e:(W2.alloc (.map #[] 0)).heap.size=bo:=by simp[hbi,hbo]
  rw[e]at h1;exact h1)
 have HB3:Hid (Below w.heap.size w W3):=aa (aq HB2.out hb3);have HM3:Hid (cE W3 ba []∧cE W3 bn []∧cE W3 bp []):=aa ⟨m1.kept (aI hb3) (by simp),m2.kept (aI hb3) (by simp),m3.kept (aI hb3) (by simp)⟩;have HX3:=aa (ai hb3 hset);have HP3:=aa (ai hb3 p2);have HQ3:=aa (ai hb3 q2);have HS3:=aa (hs2.below hb3);have HZ3:Hid (bx+1≤bi∧bo=bi+1∧W3.heap.size=bi+2):=aa (by
  refine⟨by rw[←hbi];exact HZ2.out,hbo.symm,?_⟩;rw[←hW3,←hbi];simp)
 have HW3:=aa hW3;have HBI:=aa hbi;have HBO:=aa hbo;clear hW3 hb3 HB2 m1 m2 m3 hset p2 q2 hs2 HZ2 hbi hbo;go_simp;go_wp2_with fail;rw[HBI.out,HBO.out,HW3.out];clear e1 HBI HBO HW3;go_loopw [38] (fun i wr=>∃(k:Nat)(ol:List (BA×Value)),k≤l.length∧i= .int .i64 k∧Hid (G8 w l k ol)∧Hid (cE wr bo ol)∧Hid (JB W3.heap.size bo bo bo W3 wr)) (fun i _=>l.length-(intOf i).toNat)
 case atStart=>exact⟨0,[],Nat.zero_le _,rfl,G8.start w l,HMO,JB.refl _ _ _ _ _⟩
 case round=>
  obtain⟨k,ol,hk,rfl,hol,hmo,hjb⟩:=hrel;by_cases hlt:k<l.length
  ·obtain⟨g,o,rfl,hg,hp⟩:=HA.out.resolve_left (by rintro rfl;simp at hlt);obtain⟨rv,tv,hoa⟩:=hp k _ (List.getElem?_eq_getElem hlt);have HREF:=aa hoa.refs;have HTAG:=aa hoa.tags;obtain⟨Ar,cr,hrv,_⟩:=id hoa.refs;obtain⟨At,ct,htv,_⟩:=id hoa.tags;subst hrv;subst htv;have HBR:Hid (Below w.heap.size w wr):=aa (HB3.out.trans (hjb.out.below (by have:=HZ3.out;have:=HNE.out;omega) (by have:=HZ3.out;have:=HNE.out;omega) (by have:=HZ3.out;have:=HNE.out;omega) (by have:=HZ3.out;have:=HNE.out;omega)))
   obtain⟨c0,c1,c2,c3,c4,c5,_,_⟩:=hoa.below hg HBR.out;have HLK:=aa (List.getElem?_eq_getElem hlt);have hti:(l[k]).id.size≤maxLen:=Nat.le_trans (HV.out.ok _ (List.getElem_mem hlt)).1 (by unfold maxLen;omega);generalize l[k]=t at*;have k0:(0:Int)≤k:=O9;have k1:(k:Int)<l.length:=O9;have HL:=aa hlt;obtain⟨wo,hwo⟩:∃wo,wr.alloc (.cells #[.string t.id,.int .i64 t.kind,.int .i64 t.x,.int .i64 t.y,.slice Ar t.refs.length cr,.slice At t.tags.length ct] 47)=wo:=⟨_,rfl⟩
   (have hba:Below wr.heap.size wr wo:=by rw[←hwo];exact(Below.refl _ _).alloc (Nat.le_refl _) _);(have hblk:wo.heap[wr.heap.size]? =some (.cells #[.string t.id,.int .i64 t.kind,.int .i64 t.x,.int .i64 t.y,.slice Ar t.refs.length cr,.slice At t.tags.length ct] 47 (0,0)):=by rw[←hwo];exact heap_alloc_new _ _);obtain⟨d0,d1,d2,d3,d4,d5⟩:=eE hblk;have hlen2:=hol.out.len
   obtain⟨W9,hst,hml,htu⟩:=(hmo.out.kept (aI hba) (by simp)).store Tryz.underlying183 (by have:=HV.out.len;unfold maxLen;omega) (x:=t.id) hti (.agg (eN t (.slice Ar t.refs.length cr) (.slice At t.tags.length ct)));change (Instr.mapUpdate 183 (.map (some bo)) (.string t.id) (.agg #[.string t.id,.int .i64 t.kind,.int .i64 t.x,.int .i64 t.y,.slice Ar t.refs.length cr,.slice At t.tags.length ct])).run _ _=_ at hst;have HOL:=aa (hol.out.put HLK.out HREF.out HTAG.out);have HML:=aa hml
   have HJB:Hid (JB W3.heap.size bo bo bo W3 W9):=aa ((hjb.out.lift (Nat.le_refl _) hba).step (Nat.le_refl _) htu.grown (fun r e=>.inl (Option.some.inj e).symm));clear hlt hp hoa hol hmo hjb hba hblk hml htu hti hlen2 HREF HTAG HLK HBR;go_wp2_with fail;have hlt:=HL.out;refine⟨⟨k+1,_,O9,by go_num,HOL,HML,HJB⟩,?_⟩;simp[intOf];omega
  ·(obtain rfl:k=l.length:=by omega);have k1:¬(l.length:Int)<(l.length:Nat):=O9;have HOL:=hol;have HMO4:=hmo;have HJB4:=hjb;have HMO3:=HMO;clear hol hmo hjb hlt HMO;have mo3:isMap W3 bo:=aC HMO3.out;have hb4:Below w.heap.size w wr:=HB3.out.trans (HJB4.out.below (by have:=HZ3.out;have:=HNE.out;omega) (by have:=HZ3.out;have:=HNE.out;omega) (by have:=HZ3.out;have:=HNE.out;omega) (by have:=HZ3.out;have:=HNE.out;omega));have HMI1:Hid (fm wr (.slice A l.length c) l):=aa (HV.out.below hb4)
   have q4:=HJB4.out.blk (Nat.le_refl _) mo3 mo3 mo3 HQ3.out;have d1:=(cD q4).1;have HX4:=aa (HJB4.out.blk (Nat.le_refl _) mo3 mo3 mo3 HX3.out);have HP4:=aa (HJB4.out.blk (Nat.le_refl _) mo3 mo3 mo3 HP3.out);have HS4:=aa (HJB4.out.sgs (Nat.le_refl _) mo3 mo3 mo3 HS3.out);have HMI4:Hid (nN wr bi []):=aa (gM HJB4.out HMI.out (Nat.le_refl _) (by have:=HZ3.out;omega) (by have:=HZ3.out;omega) (by have:=HZ3.out;omega))
   have HM4:Hid (cE wr ba []∧cE wr bn []∧cE wr bp []):=aa ⟨gM HJB4.out HM3.out.1 (Nat.le_refl _) (by have:=HZ3.out;have:=HNE.out;omega) (by have:=HZ3.out;have:=HNE.out;omega) (by have:=HZ3.out;have:=HNE.out;omega),gM HJB4.out HM3.out.2.1 (Nat.le_refl _) (by have:=HZ3.out;have:=HNE.out;omega) (by have:=HZ3.out;have:=HNE.out;omega) (by have:=HZ3.out;have:=HNE.out;omega),gM HJB4.out HM3.out.2.2 (Nat.le_refl _) (by have:=HZ3.out;have:=HNE.out;omega) (by have:=HZ3.out;have:=HNE.out;omega) (by have:=HZ3.out;have:=HNE.out;omega)⟩
   have HB4:=aa hb4;clear mo3 hb4 q4 HX3 HP3 HQ3 HS3 HMI HM3 HB3 HJB4 HMO3;go_wp2_with fail;refine(HSG.out _ HMI1.out).mono ?_;rintro _ w5 ⟨sv2,ov,rfl,_,hgr5,hb5⟩;obtain⟨Ao,co,rfl,hco,hGo⟩:=hgr5;rw[List.length_map];have HGO:=aa hGo;have HX5:=aa (ai hb5 HX4.out);have HP5:=aa (ai hb5 HP4.out);have HS5:=aa (HS4.out.below hb5);have HMI5:Hid (nN w5 bi []):=aa (HMI4.out.kept (aI hb5) (by simp));have HMO5:Hid (cE w5 bo ol):=aa (HMO4.out.kept (aI hb5) (by simp))
   have HM5:Hid (cE w5 ba []∧cE w5 bn []∧cE w5 bp []):=aa ⟨HM4.out.1.kept (aI hb5) (by simp),HM4.out.2.1.kept (aI hb5) (by simp),HM4.out.2.2.kept (aI hb5) (by simp)⟩;have HB5:=aa (aq HB4.out hb5);have HZ5:Hid (bx+1≤bi∧bo=bi+1∧bi+2≤w5.heap.size):=aa (by
    have h1:=HZ3.out;have h2:=HMO5.out.lt;omega)
   clear hb5 hGo HX4 HP4 HS4 HMI4 HMO4 HM4 HB4 HMI1 d1 hco HZ3;obtain⟨Gs,hGs⟩:∃z,(af l).map (aB l)=z:=⟨_,rfl⟩;rw[hGs]at HGO;have HGS:=aa hGs;clear hGs;obtain⟨n,hn⟩:∃z,(af l).length=z:=⟨_,rfl⟩;have HN:=aa hn;rw[hn]at hbl ⊢;clear hn;go_wp2_with fail;go_loopw [54] (fun i wr=>∃(k:Nat)(il:List (Pt×Value)),k≤n∧i= .int .i64 k∧il.length≤240*k∧Hid (me l il (fA l (Gs.take k)))∧Hid (nN wr bi il)∧Hid (JB w5.heap.size bi bi bi w5 wr)) (fun i _=>n-(intOf i).toNat)
   case atStart=>exact⟨0,[],Nat.zero_le _,rfl,Nat.le_refl _,me.start l,HMI5,JB.refl _ _ _ _ _⟩
   case round=>
    obtain⟨k,il,hk,rfl,hil,hids,hmi,hjb⟩:=hrel;have mi5:isMap w5 bi:=aC HMI5.out;by_cases hlt:k<n
    ·(have hltb:k<(af l).length:=by rw[HN.out];exact hlt);(have hGk:Gs[k]? =some (aB l (af l)[k]):=by rw[←HGS.out,List.getElem?_map,List.getElem?_eq_getElem hltb];rfl);obtain⟨g,o,rfl,hg,hp⟩:=HGO.out.resolve_left (fun e=>by rw[e]at hGk;simp at hGk);obtain⟨iv,h1,h2⟩:=hp k _ hGk;have h3:=hjb.out.cell (Nat.le_refl _) mi5 mi5 mi5 h1;have h4:=h2;obtain⟨Ai,ci,rfl,_⟩:=id h2;have hrl:(aB l (af l)[k]).length≤20:=Nat.le_trans (kT l l _) hll
     have HOWN:Hid (∀id,id∈aB l (af l)[k]→∃o,o∈l∧cA l id=some o∧o.id=id):=aa (fun id h=>by obtain⟨o,a1,a2,a3,_⟩:=uB hu h;exact⟨o,a1,a2,a3⟩);have HREF:=aa (fun id n (hi:id∈aB l (af l)[k])(hn:n∈fc l id)=>(G5 hm hi hn));have HTK:Hid (fA l (Gs.take (k+1))=fA l (Gs.take k)++(aB l (af l)[k]).flatMap (fc l)):=aa (by
      rw[List.take_add_one,hGk];unfold fA;rw[List.flatMap_append];simp)
     have HST:=aa h4;generalize aB l (af l)[k]=r at*;have k0:(0:Int)≤k:=O9;have k1:(k:Int)<n:=O9;have hkn:k<240:=O9;have HIL:=hil;have HIDS:Hid (me l il (fA l (Gs.take k)++(r.take 0).flatMap (fc l))):=aa (by simpa using hids.out);have HMP:=hmi;have HJ:=hjb;clear hGk hp h1 h2 h4 hids hmi hjb hil hltb;go_wp2_with fail;clear h3
     go_loopw [60] (fun i wr=>∃(j:Nat)(il:List (Pt×Value)),j≤r.length∧i= .int .i64 j∧il.length≤240*k+12*j∧Hid (me l il (fA l (Gs.take k)++(r.take j).flatMap (fc l)))∧Hid (nN wr bi il)∧Hid (JB w5.heap.size bi bi bi w5 wr)) (fun i _=>r.length-(intOf i).toNat)
     case atStart=>exact⟨0,il,Nat.zero_le _,rfl,O9,HIDS,HMP,HJ⟩
     case round=>
      clear HIDS HMP HJ HIL;obtain⟨j,il,hj,rfl,hil,hids,hmi,hjb⟩:=hrel;have mi5:isMap w5 bi:=aC HMI5.out;by_cases hltj:j<r.length
      ·have hrj:r[j]? =some r[j]:=List.getElem?_eq_getElem hltj;have hst:=hjb.out.sts (Nat.le_refl _) mi5 mi5 mi5 HST.out;obtain⟨Ai2,ci2,hAi,_,hAA⟩:=hst;rw[Value.slice.injEq]at hAi;obtain⟨rfl,_,rfl⟩:=hAi;obtain⟨gi,oi,hgi,_,hpi⟩:=hAA.resolve_left (fun e=>by rw[e]at hltj;simp at hltj);have e1:=hpi j _ hrj;obtain⟨ob,hob1,hob2,hob3⟩:=HOWN.out _ (List.getElem_mem hltj);have hrn:=fun n=>HREF.out r[j] n (List.getElem_mem hltj);rw[Bm hob2]at hrn;have HRN:=aa hrn;obtain⟨rv,tv,hol1,hol2,hol3⟩:=HOL.out.find hu hob2
       obtain⟨Ar,cr,hrv,hcr,hAr⟩:=id hol2;obtain⟨At,ct,htv,_⟩:=id hol3;subst hrv;subst htv;subst hgi;have HTJ:Hid ((r.take (j+1)).flatMap (fc l)=(r.take j).flatMap (fc l)++ob.refs):=aa (by
        rw[List.take_add_one,hrj,List.flatMap_append];simp[Bm hob2])
       have hrl12:ob.refs.length≤12:=(hsm.2 ob hob1).2.1;(have hki:(r[j]).size≤maxLen:=by rw[←hob3];exact Nat.le_trans (HV.out.ok _ hob1).1 (by unfold maxLen;omega));have mo9:=gM hjb.out HMO5.out (Nat.le_refl _) (by have:=HZ5.out;omega) (by have:=HZ5.out;omega) (by have:=HZ5.out;omega);have lk1:(Instr.lookup 183 (.map (some bo)) (.string r[j]) false).run Tryz.prog wr=_:=mo9.look Tryz.underlying183 Bl (x:=r[j]) hki;rw[hol1,Option.getD_some]at lk1;unfold eN at lk1
       have f3:∀W:World,(Instr.field 47 (.agg #[.string ob.id,.int .i64 ob.kind,.int .i64 ob.x,.int .i64 ob.y,.slice Ar ob.refs.length cr,.slice At ob.tags.length ct]) 3).run Tryz.prog W= .ok (.slice Ar ob.refs.length cr) W:=fun W=>K9;have HAR:=aa hAr;generalize r[j]=oid at*;have j0:(0:Int)≤j:=O9;have j1:(j:Int)<r.length:=O9;have HIL:=hil;have HIDS:Hid (me l il (fA l (Gs.take k)++(r.take j).flatMap (fc l)++ob.refs.take 0)):=aa (by simpa using hids.out);have HMP:=hmi;have HJ:=hjb
       clear hrj hpi hob1 hob2 hob3 hrn hol1 hol2 hol3 hAr mo9 hids hmi hjb hil hAA hki;go_wp2_with fail;clear lk1 f3 e1;go_loopw [69] (fun i wr=>∃(m:Nat)(il:List (Pt×Value)),m≤ob.refs.length∧i= .int .i64 m∧il.length≤240*k+12*j+m∧Hid (me l il (fA l (Gs.take k)++(r.take j).flatMap (fc l)++ob.refs.take m))∧Hid (nN wr bi il)∧Hid (JB w5.heap.size bi bi bi w5 wr)) (fun i _=>ob.refs.length-(intOf i).toNat)
       case atStart=>exact⟨0,il,Nat.zero_le _,rfl,O9,HIDS,HMP,HJ⟩
       case round=>
        clear HIDS HMP HJ HIL;obtain⟨m,il,hmm,rfl,hil,hids,hmi,hjb⟩:=hrel;have mi5:isMap w5 bi:=aC HMI5.out;by_cases hltm:m<ob.refs.length
        ·have hrm:ob.refs[m]? =some ob.refs[m]:=List.getElem?_eq_getElem hltm;obtain⟨gr,orr,rfl,hgr,hpr⟩:=HAR.out.resolve_left (fun e=>by rw[e]at hltm;simp at hltm);have hbw:=HB5.out.trans (hjb.out.below (m:=w.heap.size) HB5.out.size (by have:=HZ5.out;have:=HNE.out;omega) (by have:=HZ5.out;have:=HNE.out;omega) (by have:=HZ5.out;have:=HNE.out;omega));have e1:=(hbw.cell (p:=⟨gr,_,none⟩) hgr).trans (hpr m _ hrm);have hend:=HRN.out _ (List.getElem_mem hltm);obtain⟨qq,hq1,hq2⟩:=id hend
         have hnode:isNode l ob.refs[m]=true:=by
          obtain⟨n1,n2⟩:=dG hq1;rcases hq2 with e|e<;>rw[e]
          ·exact n1
          ·exact n2
         obtain⟨on,hon1,hon2,hon3,hon4⟩:=lL hu hnode;clear hon4;obtain⟨rv,tv,hol1,hol2,hol3⟩:=HOL.out.find hu hon2;obtain⟨Ax,cx,hrv,_⟩:=id hol2;obtain⟨Ay,cy,htv,_⟩:=id hol3;subst hrv;subst htv;(have hpt:ar l ob.refs[m]=⟨on.x,on.y⟩:=by unfold ar;rw[hon2]);have hgrid:=gF hm hnode;rw[hpt]at hgrid;(have hok:nx ⟨on.x,on.y⟩:=by unfold nx;simp only at hgrid ⊢;omega);have hki:(ob.refs[m]).size≤maxLen:=by rw[←hon3];exact Nat.le_trans (HV.out.ok _ hon1).1 (by unfold maxLen;omega)
         have mo9:=gM hjb.out HMO5.out (Nat.le_refl _) (by have:=HZ5.out;omega) (by have:=HZ5.out;omega) (by have:=HZ5.out;omega);have lk2:(Instr.lookup 183 (.map (some bo)) (.string ob.refs[m]) false).run Tryz.prog wr=_:=mo9.look Tryz.underlying183 Bl (x:=ob.refs[m]) hki;rw[hol1,Option.getD_some]at lk2;unfold eN at lk2
         have f2:∀W:World,(Instr.field 47 (.agg #[.string on.id,.int .i64 on.kind,.int .i64 on.x,.int .i64 on.y,.slice Ax on.refs.length cx,.slice Ay on.tags.length cy]) 2).run Tryz.prog W= .ok (.agg #[.int .i64 on.x,.int .i64 on.y]) W:=fun W=>K9;obtain⟨W9,hst9,hml9,htu9⟩:=hmi.out.store Tryz.underlying69 (by unfold maxLen;omega) (x:=⟨on.x,on.y⟩) hok (.string ob.refs[m]);change (Instr.mapUpdate 69 (.map (some bi)) (.agg #[.int .i64 on.x,.int .i64 on.y]) (.string ob.refs[m])).run _ _=_ at hst9
         have HIDS:Hid (me l (cR il ⟨on.x,on.y⟩ (.string ob.refs[m])) (fA l (Gs.take k)++(r.take j).flatMap (fc l)++ob.refs.take (m+1))):=aa (by
          have:=hids.out.put hend;rw[hpt]at this;rw[List.take_add_one,hrm];simpa using this)
         have HMP:=aa hml9;have HJ:Hid (JB w5.heap.size bi bi bi w5 W9):=aa (hjb.out.step (Nat.le_refl _) htu9.grown (fun r e=>.inl (Option.some.inj e).symm));have HIL:Hid ((cR il ⟨on.x,on.y⟩ (.string ob.refs[m])).length≤240*k+12*j+(m+1)):=aa (by rw[dF];split<;>omega);generalize ob.refs[m]=nn at*;have m0:(0:Int)≤m:=O9;have m1:(m:Int)<ob.refs.length:=O9;have HLM:=aa hltm;clear hrm hpr hbw hend hq1 hq2 hnode hon1 hon2 hon3 hol1 hol2 hol3 hpt hgrid hok hki mo9 hml9 htu9 hids hmi hjb hil;go_wp2_with fail
         have hltm:=HLM.out;refine⟨⟨m+1,_,O9,by go_num,HIL.out,HIDS,HMP,HJ⟩,?_⟩;simp[intOf];omega
        ·(obtain rfl:m=ob.refs.length:=by omega);have m1:¬((ob.refs.length:Nat):Int)<(ob.refs.length:Nat):=O9;have HIDS:Hid (me l il (fA l (Gs.take k)++(r.take (j+1)).flatMap (fc l))):=aa (by
          have:=hids.out;rw[List.take_length]at this;rw[HTJ.out,←List.append_assoc];exact this)
         have HMP:=hmi;have HJ:=hjb;have HIL:Hid (il.length≤240*k+12*(j+1)):=aa O9;have HLJ:=aa hltj;clear hids hmi hjb hil hltm;go_wp2_with fail;have hltj:=HLJ.out;refine⟨⟨j+1,_,O9,by go_num,HIL.out,HIDS,HMP,HJ⟩,?_⟩;simp[intOf];omega
      ·(obtain rfl:j=r.length:=by omega);have j1:¬((r.length:Nat):Int)<(r.length:Nat):=O9;have HIDS:Hid (me l il (fA l (Gs.take (k+1)))):=aa (by
        have:=hids.out;rw[List.take_length]at this;rw[HTK.out];exact this)
       have HMP:=hmi;have HJ:=hjb;have HIL:Hid (il.length≤240*(k+1)):=aa O9;have HLK:=aa hlt;clear hids hmi hjb hil hltj;go_wp2_with fail;have hlt:=HLK.out;refine⟨⟨k+1,_,O9,by go_num,HIL.out,HIDS,HMP,HJ⟩,?_⟩;simp[intOf];omega
    ·(obtain rfl:k=n:=by omega);have k1:¬(k:Int)<(k:Nat):=O9;have HNL:Hid (Gs.length=k):=aa (by rw[←HGS.out,List.length_map,HN.out]);have HWH:Hid (∀p∈af l,∀s,fj p s→aJ il (ar l s)=some (.string s)):=aa (fun p hp s hs=>by
      have h:=hids.out;rw[List.take_of_length_le (by rw[HNL.out];exact Nat.le_refl _),←HGS.out]at h;exact h.whole hm hc hp hs)
     have HX6:=aa (hjb.out.blk (Nat.le_refl _) mi5 mi5 mi5 HX5.out);have HP6:=aa (hjb.out.blk (Nat.le_refl _) mi5 mi5 mi5 HP5.out);have HS6:=aa (hjb.out.sgs (Nat.le_refl _) mi5 mi5 mi5 HS5.out);have HMI6:=hmi
     have HM6:Hid (cE wr ba []∧cE wr bn []∧cE wr bp []):=aa ⟨gM hjb.out HM5.out.1 (Nat.le_refl _) (by have:=HZ5.out;have:=HNE.out;omega) (by have:=HZ5.out;have:=HNE.out;omega) (by have:=HZ5.out;have:=HNE.out;omega),gM hjb.out HM5.out.2.1 (Nat.le_refl _) (by have:=HZ5.out;have:=HNE.out;omega) (by have:=HZ5.out;have:=HNE.out;omega) (by have:=HZ5.out;have:=HNE.out;omega),gM hjb.out HM5.out.2.2 (Nat.le_refl _) (by have:=HZ5.out;have:=HNE.out;omega) (by have:=HZ5.out;have:=HNE.out;omega) (by have:=HZ5.out;have:=HNE.out;omega)⟩
     have HB6:Hid (Below w.heap.size w wr):=aa (HB5.out.trans (hjb.out.below (m:=w.heap.size) HB5.out.size (by have:=HZ5.out;have:=HNE.out;omega) (by have:=HZ5.out;have:=HNE.out;omega) (by have:=HZ5.out;have:=HNE.out;omega)));(have hsl:(dw l).length=k:=by unfold dw;rw[List.length_map,HN.out]);clear hids hmi hjb mi5 hil hk hlt HOL HMO5 HM5 HMI5 HX5 HP5 HS5 HB5 HGO;obtain⟨W6,hW6⟩:∃z,z=wr:=⟨_,rfl⟩;subst hW6;obtain⟨n1,hn1⟩:∃z,W6.heap.size=z:=⟨_,rfl⟩;have HN1:=aa hn1
     obtain⟨sv,hsv⟩:∃z,Value.slice As (dw l).length cs=z:=⟨_,rfl⟩;have HSV:Hid (sv= .slice As k cs):=aa (by rw[←hsv,hsl]);rw[hsv]at HX6 HS6;have HJ0:Hid (ke l n1 x ba bn bp sv [] [] (dT ((af l).take 0)) id [] [] [] (fun _=>0) W6):=aa ⟨HX6.out,HM6.out.1,HM6.out.2.1,HM6.out.2.2,oL,⟨fun _ h=>by simp at h,by simp⟩,fun _ h=>by simp at h,fun _=>rfl,fun _ h=>by simp at h,fun _ h=>by simp at h,fun _ h=>by simp at h,by have:=HNE.out;omega⟩;have y0:=(cD HP6.out).1;have y1:=(aY HX6.out).2.2.2;rw[HSV.out]at y1;have HSL:=aa hsl
     clear hsv hsl hn1;go_wp2_with fail;clear y0 y1;go_loopw [87] (fun i wr=>∃(m:Nat)(D E:List BA)(P:BA→BA)(la lp:List (BA×Value))(rows:List (Rw BA))(q:BA→Nat),m≤k∧i= .int .i64 m∧la.length≤2*m∧rows.length≤2*m∧lp.length≤2*m∧Hid (∀v,v∈D↔v∈endsB ((af l).take m))∧Hid (∀v,v∈E↔v∈endsB ((af l).take m))∧Hid (rE ((af l).take m) P)∧Hid (ke l n1 x ba bn bp sv D E (dT ((af l).take m)) P la lp rows q wr)∧Hid (JB n1 ba bn bp W6 wr)) (fun i _=>k-(intOf i).toNat)
     case atStart=>exact⟨0,[],[],id,[],[],[],fun _=>0,Nat.zero_le _,rfl,Nat.le_refl _,Nat.le_refl _,Nat.le_refl _,aa (fun v=>by simp[Pf.endsB]),aa (fun v=>by simp[Pf.endsB]),rE.start,HJ0,JB.refl _ _ _ _ _⟩
     case round=>
      clear HJ0;obtain⟨m,D,E,P,la,lp,rows,q,hmk,rfl,hla,hrows,hlp,hD,hE,hP,hj,hb⟩:=hrel;have ma6:isMap W6 ba:=aC HM6.out.1;have mn6:isMap W6 bn:=aC HM6.out.2.1;have mp6:isMap W6 bp:=aC HM6.out.2.2;have hn6:W6.heap.size≤n1:=Nat.le_of_eq HN1.out;(have hn7:n1≤wr.heap.size:=by rw[←HN1.out];exact hb.out.size);by_cases hlt:m<k
      ·(have hltb:m<(af l).length:=by rw[HN.out];exact hlt);have hmem:(af l)[m]∈af l:=List.getElem_mem hltb;(have hTK:(af l).take (m+1)=(af l).take m++[(af l)[m]]:=by rw[List.take_add_one,List.getElem?_eq_getElem hltb];rfl);(have hsg:(dw l)[m]? =some (cF l (af l)[m]):=by unfold dw;rw[List.getElem?_map,List.getElem?_eq_getElem hltb];rfl);have hss:=hb.out.sgs hn6 ma6 mn6 mp6 HS6.out;rw[HSV.out]at hss;obtain⟨As2,cs2,hAs,hAA⟩:=hss;rw[Value.slice.injEq]at hAs;obtain⟨rfl,hAs2,rfl⟩:=hAs;clear hAs2
       obtain⟨gs,os,rfl,_,hps⟩:=hAA.resolve_left (fun e=>by rw[e]at hsg;simp at hsg);obtain⟨e1,e2,e3,e4⟩:=hps m _ hsg;have hab:=lO hm hmem;have hwa:=HWH.out _ hmem _ (.inl rfl);have hwb:=HWH.out _ hmem _ (.inr rfl);obtain⟨nd1,nd2⟩:=dG hmem;have ga:=gF hm nd1;have gb:=gF hm nd2;obtain⟨sz1,sz2⟩:=bO hsm hmem;generalize (af l)[m]=p at*;obtain⟨a,b⟩:=p;simp only at hab hwa hwb ga gb sz1 sz2;have hka:a.size≤maxLen:=Nat.le_trans sz1 (by unfold maxLen;omega)
       have hkb:b.size≤maxLen:=Nat.le_trans sz2 (by unfold maxLen;omega);change wr.cell? _=some (.int .i64 (ar l a).x)at e1;change wr.cell? _=some (.int .i64 (ar l a).y)at e2;change wr.cell? _=some (.int .i64 (ar l b).x)at e3;change wr.cell? _=some (.int .i64 (ar l b).y)at e4;(have hoka:nx (ar l a):=by unfold nx;omega);(have hokb:nx (ar l b):=by unfold nx;omega);obtain⟨wo,hwo⟩:∃z,wr.alloc (.cells #[.int .i64 (ar l a).x,.int .i64 (ar l a).y,.int .i64 (ar l b).x,.int .i64 (ar l b).y] 68)=z:=⟨_,rfl⟩
       (have hba:Below wr.heap.size wr wo.drew:=by rw[←hwo];exact((Below.refl _ _).alloc (Nat.le_refl _) _).drew);(have hblk:wo.drew.heap[wr.heap.size]? =some (.cells #[.int .i64 (ar l a).x,.int .i64 (ar l a).y,.int .i64 (ar l b).x,.int .i64 (ar l b).y] 68 (0,0)):=by rw[←hwo];exact heap_alloc_new _ _);have hmi7:=(gM hb.out HMI6.out hn6 (by have:=HZ5.out;have:=HNE.out;omega) (by have:=HZ5.out;have:=HNE.out;omega) (by have:=HZ5.out;have:=HNE.out;omega)).kept (aI hba) (by simp)
       have lka:(Instr.lookup 69 (.map (some bi)) (Pm.ptV (ar l a)) false).run Tryz.prog _=_:=hmi7.look Tryz.underlying69 s8 (x:=ar l a) hoka;have lkb:(Instr.lookup 69 (.map (some bi)) (Pm.ptV (ar l b)) false).run Tryz.prog _=_:=hmi7.look Tryz.underlying69 s8 (x:=ar l b) hokb;rw[hwa,Option.getD_some]at lka;rw[hwb,Option.getD_some]at lkb;unfold Pm.ptV at lka lkb;have y0:=(cD (ai hba (hb.out.blk hn6 ma6 mn6 mp6 HP6.out))).1;obtain⟨d0,d1,d2,d3⟩:=aY hblk;have HWD:=aa hba
       have hGl:∀v,(dT ((af l).take m) v).length≤1000:=fun v=>by
        have:=q8 ((af l).take m) v;rw[List.length_take]at this;omega
       have HJN:=aa (FD l n1 x ba bn bp sv D E (dT ((af l).take m)) P la lp rows q _ (hj.out.lift hba) (Nat.le_trans hn7 hba.size) a b hab hka hkb O9 O9 O9 (hGl a) (hGl b) (fun v hv=>hP.out.new v (fun h=>hv ((hE.out v).2 h))));have HJB:=aa (hb.out.lift (by rw[HN1.out];exact Nat.le_refl _) hba);have HTK:=aa hTK;have m0:(0:Int)≤m:=O9;have m1:(m:Int)<k:=O9;have HLM:=aa hlt;clear hmem hTK hsg hps hAA hab hwa hwb nd1 nd2 ga gb sz1 sz2 hka hkb hoka hokb hmi7 hblk hGl hj hb hltb hlt;generalize (ar l a).x=ax at*
       generalize (ar l a).y=ay at*;generalize (ar l b).x=bx1 at*;generalize (ar l b).y=by1 at*;have HWO:=aa hwo;clear hwo;go_upto_region 27 with(fail);rw[HWO.out];clear HWO;go_still_tail 10,K9;change wpList _ _ _ _ _ wo.drew;clear lka lkb y0 d0 d1 d2 d3 e1 e2 e3 e4 hba;generalize wo.drew=wd7 at*;go_wp2_with fail;refine HJN.out.mono ?_;rintro _ w9 ⟨rfl,E',la',lp',rows',q',hE',hla',hrows',hlp',hj9,hb9⟩;have HD2:Hid (∀v,v∈b::a::D↔v∈endsB ((af l).take (m+1))):=aa (fun v=>by
        rw[HTK.out,fE,List.mem_cons,List.mem_cons,hD.out v];constructor
        ·rintro(h|h|h)
         ·exact .inr (.inr h)
         ·exact .inr (.inl h)
         ·exact .inl h
        ·rintro(h|h|h)
         ·exact .inr (.inr h)
         ·exact .inr (.inl h)
         ·exact .inl h)
       (have hE2:∀v,v∈E'↔v∈endsB ((af l).take (m+1)):=fun v=>by rw[HTK.out,fE,hE' v,hE.out v]);have HE2:=aa hE2;have hPf:(fun u=>if u∈E'∧P u=P a then P b else P u)=C4 ((af l).take m++[(a,b)]) P (a,b):=by
        funext u;unfold C4;rw[←HTK.out];simp only[hE2 u]
       have HP2:Hid (rE ((af l).take (m+1)) (fun u=>if u∈E'∧P u=P a then P b else P u)):=aa (by rw[hPf,HTK.out];exact hP.out.step (a,b));have hGf:(fun v=>dT ((af l).take m) v++pK (a,b) v)=dT ((af l).take (m+1)):=by
        funext v;rw[HTK.out,C3]
       rw[hGf]at hj9;have HJ9:=aa hj9;have HB9:=aa (HJB.out.trans hb9);have HLA:Hid (la'.length≤2*(m+1)∧rows'.length≤2*(m+1)∧lp'.length≤2*(m+1)):=aa O9;clear hE' hE2 hPf hGf hj9 hb9 hla' hrows' hlp' hD hE hP;go_wp2_with fail;have hlt:=HLM.out;have hla2:=HLA.out;refine⟨⟨m+1,b::a::D,E',_,la',lp',rows',q',O9,by go_num,hla2.1,hla2.2.1,hla2.2.2,HD2,HE2,HP2,HJ9,HB9⟩,?_⟩;simp[intOf];omega
      ·(obtain rfl:m=k:=by omega);have m1:¬(m:Int)<(m:Nat):=O9;have htk:(af l).take m=af l:=List.take_of_length_le (by rw[HN.out];exact Nat.le_refl _);rw[htk]at hD hE hP hj;have y0:=(cD (hb.out.blk hn6 ma6 mn6 mp6 HP6.out)).1;have y1:=(aY hj.out.box).2.1;obtain⟨w8,hr8,hrg8,hg8,hs8⟩:=hj.out.mnb.range Tryz.underlying179;have hb8:Below wr.heap.size wr w8:=⟨hg8.os,hg8.tape,hg8.output,hg8.size,fun i hi=>hg8.block i hi (by simp)⟩;have HJ8:=aa (hj.out.lift hb8)
       have HB8:=aa (hb.out.lift (by rw[HN1.out];exact Nat.le_refl _) hb8);have HRG8:=aa hrg8;have HRBN:Hid (n1≤wr.heap.size):=aa hn7;have HLO0:Hid (∀u,(aJ (keyed rows) u).isSome=false→(dT (af l) u).Pairwise (fun a b=>¬kq (ar l u) (ar l b) (ar l a))):=aa (fun u hu=>by
        rcases hj.out.rr.look u with⟨h1,_⟩|⟨_,_,_,_,_,_,_,h3⟩
        ·rw[h1];exact List.Pairwise.nil
        ·rw[h3]at hu;cases hu)
       have HSZ6:Hid (∀s∈an l,s.1.size≤maxLen):=aa (fun s hs=>by
        obtain⟨p,hp,e,_⟩:=gH hs;obtain⟨s1,s2⟩:=bO hsm hp;rcases e with e|e<;>rw[e]
        ·exact Nat.le_trans s1 (by unfold maxLen;omega)
        ·exact Nat.le_trans s2 (by unfold maxLen;omega))
       have HPE:=hP;clear hla hrows hlp hP hj hb hn7 hrg8 hg8 hs8 hb8 htk hmk hlt;go_wp2_with fail;obtain⟨rb,hrb⟩:∃z,wr.heap.size=z:=⟨_,rfl⟩;rw[hrb]at HRG8 HRBN ⊢;clear hr8 hrb y0 y1
       go_loopw [] (fun wr=>∃(left:BA→Bool)(ja:Nat)(rows':List (Rw BA))(G':BA→List BA),Hid (bD (strKeys Tryz.prog 9 Tryz.underlying9) wr bn rb (keyed rows) left ja)∧Hid (keyed rows'=keyed rows)∧Hid (∀u,(G' u).Perm (dT (af l) u))∧Hid (∀u,left u=false→(G' u).Pairwise (fun a b=>¬kq (ar l u) (ar l b) (ar l a)))∧Hid (ke l n1 x ba bn bp sv D E G' P la lp rows' q wr)∧Hid (JB n1 ba bn bp W6 wr)) (fun wr=>wr.rangeLeft bn rb)
       case atStart=>exact⟨_,_,rows,_,HRG8,rfl,aa (fun _=>List.Perm.refl _),HLO0,HJ8,HB8⟩
       case round=>
        clear HRG8 HJ8 HB8 HLO0;obtain⟨left,ja,rows',G',hrg,hky,hpm,hsr,hj,hb⟩:=hrel;(have hn7:n1≤wr.heap.size:=by rw[←HN1.out];exact hb.out.size);rcases hrg.out.next with⟨hc0,hl0,hnx⟩|⟨v,u,w5,cnt',hok,hlx,hgx,hnx,hrg5,hlt5,hg5,hs5,hen⟩
        ·have HPQ:=aa (hj.out.whole hD.out hE.out hpm.out (by rw[HN.out];omega));have HNB:Hid (kD l G'):=aa (IK hm hc hpm.out (fun v=>by
          by_cases hv:v∈Pf.endsB (af l)
          ·obtain⟨p,hp,e⟩:=iq.1 hv;obtain⟨s1,s2⟩:=bO hsm hp;refine hsr.out v (hl0 v ?_);rcases e with e|e<;>rw[e]
           ·exact Nat.le_trans s1 (by unfold maxLen;omega)
           ·exact Nat.le_trans s2 (by unfold maxLen;omega)
          ·have h1:dT (af l) v=[]:=by
            by_cases h:dT (af l) v=[]
            ·exact h
            ·exact absurd (G4.1 h) hv
           have h2:=hpm.out v;rw[h1]at h2;rw[h2.eq_nil];exact List.Pairwise.nil))
         have HFB:Hid (Below w.heap.size w wr):=aa (HB6.out.trans (hb.out.below (m:=w.heap.size) (by rw[←HN1.out];exact HB6.out.size) (by have:=HNE.out;omega) (by have:=HNE.out;omega) (by have:=HNE.out;omega)));have y0:=(cD (hb.out.blk hn6 ma6 mn6 mp6 HP6.out)).1;clear hl0 hrg hky hpm hsr hj hb hc0 hn7;go_wp2_with fail;go_ret;exact⟨_,_,_,_,_,_,_,_,_,_,rfl,HPQ.out,HNB.out,HPE.out.lab,HFB.out⟩
        ·rw[←hky.out]at hgx;rcases hj.out.rr.look v with⟨_,h2⟩|⟨pre,y,post,hrw,hyv,hy2,hyn,h3⟩
         ·rw[h2]at hgx;cases hgx
         ·rw[h3]at hgx;obtain rfl:=Option.some.inj hgx;have hL:∀s∈G' v,(v,s)∈an l:=fun s hs=>iW.1 ((hpm.out v).mem_iff.1 hs);have hGl:(G' v).length≤1000:=by
           rw[(hpm.out v).length_eq];have:=q8 (af l) v;rw[HN.out]at this;omega
          obtain⟨mi,se,ei,ci,hit⟩:=dh hrg.out;have ni:∀ {y:Nat}{cs:Array Value}{t:TypeId},wr.heap[y]? =some (.cells cs t (0,0))→some rb≠some y:=fun hy e=>by
           cases e;rw[hit]at hy;cases hy
          have nm:∀ {y:Nat},(∃es c,wr.heap[y]? =some (.map es c))→some rb≠some y:=fun hy e=>by
           obtain⟨es,c,hy⟩:=hy;cases e;rw[hit]at hy;cases hy
          have hj5:=hj.out.kept hg5 (ni hj.out.box) (nm (aC hj.out.mat)) (nm (aC hj.out.mnb)) (nm (aC hj.out.mpt)) (fun u hu=>ni (hj.out.cell u hu).2) (fun y hy g hg e=>bZ (hj.out.sr.row y.2 (List.mem_map.2 ⟨y,hy,rfl⟩)) ⟨mi,se,ei,ci,hit⟩ (by rw[hg];exact e.symm));have hb5:JB n1 ba bn bp W6 w5:=hb.out.step (by rw[HN1.out];exact Nat.le_refl _) hg5 (fun r e=>by cases e;exact .inr (.inr (.inr HRBN.out)));rw[hrw]at hj5 hky;have hy5:=hj5.sr.row y.2 (List.mem_map.2 ⟨y,List.mem_append_right _ (List.mem_cons_self ..),rfl⟩)
          rw[hy2]at hy5;obtain⟨yk,yv,yl⟩:=y;simp only at hyv hy2 hy5 hnx hen h3;subst hyv;have hpos:0<(G' yk).length:=List.length_pos_iff.2 hyn;obtain⟨gy,cy,rfl⟩:=fv hy5 hpos;obtain⟨wo,hwo⟩:∃z,w5.alloc (.cells #[.string yk] 9)=z:=⟨_,rfl⟩;(have hba:Below w5.heap.size w5 wo:=by rw[←hwo];exact(Below.refl _ _).alloc (Nat.le_refl _) _);(have hvb:wo.heap[w5.heap.size]? =some (.cells #[.string yk] 9 (0,0)):=by rw[←hwo];exact heap_alloc_new _ _);have hjo:=hj5.lift hba
          have hbo:=hb5.lift (by rw[HN1.out];exact Nat.le_refl _) hba;have hpb:=hbo.blk hn6 ma6 mn6 mp6 HP6.out;have hyo:=ao hy5 hba;have hpla:IJ l wo x ba (.map (some bn)) (.map (some bp)) sv la:=⟨hjo.box,hjo.mat,fun s hs=>hjo.pts s.1 ((hD.out _).2 (iq.2 (by
           obtain⟨p,hp,e,_⟩:=gH hs;exact⟨p,hp,e⟩)))⟩
          have HSO:=aa (C9 l hm hc wo x ba bx w5.heap.size _ _ _ la hpla HSZ6.out yk (G' yk) hL hGl hpb hvb _ hyo (fun e=>by
           obtain⟨_,cur,h⟩:=bK hy5 e;have:=lt_of_block h;omega))
          have HRO:=aa (hrg5.kept (aI hba) (by simp) (by simp));have HJO:=aa hjo;have HBO:=aa hbo;have HYO:=aa hyo;have HYN:=aa hyn;have HM9:Hid (∀W,bD (strKeys Tryz.prog 9 Tryz.underlying9) W bn rb (keyed rows) (fun y=>left y&& !decide (y=yk)) cnt'→W.rangeLeft bn rb<wr.rangeLeft bn rb):=aa (fun W h=>by rw[h.left_eq,hrg.out.left_eq];exact hlt5);have HWO:=aa hwo
          change ∀ty,(Instr.next (.pointer (some ⟨rb,0,none⟩)) false ty).run Tryz.prog wr= .ok (.tuple #[.bool true,.string yk,.slice (some ⟨gy,0,none⟩) (G' yk).length cy]) w5 at hnx;change (Instr.entry (.pointer (some ⟨rb,0,none⟩))).run Tryz.prog w5= .ok (.tuple #[.string yk,.slice (some ⟨gy,0,none⟩) (G' yk).length cy]) w5 at hen;clear hL hit ni nm hj5 hb5 hy5 hjo hbo hpb hyo hpla hrg5 hlt5 hg5 hs5 hba hvb hj hb hrg hgx hok h3 hy2 hyn hrw hwo hGl;go_wp2_with fail;rw[HWO.out];refine HSO.out.mono ?_
          rintro _ w9 ⟨rfl,L,hLp,hLs,hLo,hLg⟩;have hLn:L≠[]:=fun e=>by
           rw[e]at hLp;exact HYN.out hLp.symm.eq_nil
          have HJ9:=aa (HJO.out.resort hLn hLg hLo);have HB9:Hid (JB n1 ba bn bp W6 w9):=aa (HBO.out.step (by rw[HN1.out];exact Nat.le_refl _) hLg (fun r e=>.inr (.inr (.inr (aj HYO.out e).1))));have HR9:=aa (HRO.out.kept hLg (fun e=>aH HYO.out (aC HJO.out.mnb) e.symm) (fun e=>bZ HYO.out (dh HRO.out) e.symm));have HK9:Hid (keyed (pre++(yk,(Value.slice (some ⟨gy,0,none⟩) (G' yk).length cy),L)::post)=keyed rows):=aa (by
           rw[←hky.out];simp[keyed])
          have HP9:Hid (∀u,((fun z=>if z=yk then L else G' z) u).Perm (dT (af l) u)):=aa (fun u=>by
           by_cases e:u=yk
           ·simp only[if_pos e];rw[e];exact hLp.trans (hpm.out yk)
           ·simp only[if_neg e];exact hpm.out u)
          have HS9:Hid (∀u,(left u&& !decide (u=yk))=false→((fun z=>if z=yk then L else G' z) u).Pairwise (fun a b=>¬kq (ar l u) (ar l b) (ar l a))):=aa (fun u hu=>by
           by_cases e:u=yk
           ·simp only[if_pos e];rw[e];exact hLs
           ·simp only[if_neg e];exact hsr.out u (by simpa[e]using hu))
          clear hLp hLs hLo hLg hLn hpm hsr hky HSO HJO HBO HRO HYO HYN HWO;go_wp2_with fail;exact⟨⟨_,cnt',_,_,HR9,HK9,HP9,HS9,HJ9,HB9⟩,HM9.out _ HR9.out⟩
