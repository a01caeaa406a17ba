/-
  The reference's borders.
-/
import Derived.Test.YtfkgjbdeicggaaaGreatZd
import Derived.Test.YtfkgjbdeicggaaaGreatZl
set_option maxHeartbeats 8000000
set_option maxRecDepth 100000
namespace Go.Proofs.YtfkgjbdeicggaaaGreat
open Go.RowKit Go.Proofs.Px Go.Proofs.Pn Go.Proofs.Pm Go.Proofs.Pg Go.Proofs.Pto
attribute [local go_sem] Oper.semAt_some eh ehx
theorem dN{W:World}{B B' sz n:Nat}{t:TypeId}{v:Value}{xs:List Value}(h:W.ownsRow B t sz v n xs)(hb:B'≤B):W.ownsRow B' t sz v n xs:=by
 obtain⟨h1,h2⟩:=h;refine⟨h1,?_⟩;rcases h2 with h2|⟨g,cap,cur,hv,hB,hr⟩
 ·exact .inl h2
 ·exact .inr ⟨g,cap,cur,hv,Nat.le_trans hb hB,hr⟩
def fw(p:Pr):List Value:=[.string p.1,.string p.2]
def nZ(o:Ob)(k:Nat):List Pr:=(List.range k).map (sideAt o)
def ju(o:Ob)(k:Nat):List Pr:=(List.range (br o)).map (fun i=>if i<k then bC (sideAt o i)else sideAt o i)
theorem oV(o:Ob)(k:Nat):nZ o (k+1)=nZ o k++[sideAt o k]:=by simp[nZ,List.range_succ]
theorem tp(o:Ob):ju o 0=nZ o (br o):=by simp[ju,nZ]
theorem iX(o:Ob)(k:Nat):(ju o k).length=br o:=by simp[ju]
theorem xE(o:Ob):ju o (br o)=bw o:=by
 unfold ju bw;exact List.map_congr_left (fun i hi=>by rw[if_pos (List.mem_range.1 hi)])
theorem uH(o:Ob)(k i:Nat)(h:i<br o):(ju o k)[i]? =some (if i<k then bC (sideAt o i)else sideAt o i):=by
 unfold ju;rw[List.getElem?_map,List.getElem?_range h];rfl
theorem xF(o:Ob){k:Nat}(h:k<br o):(ju o k)[k]? =some (sideAt o k):=by
 rw[uH o k k h,if_neg O9]
theorem xG(o:Ob){k:Nat}(h:k<br o):(ju o k).set k (bC (sideAt o k))=ju o (k+1):=by
 apply List.ext_getElem?;intro i;rw[List.getElem?_set];by_cases hi:i<br o
 ·rw[uH o (k+1) i hi];by_cases e:k=i
  ·subst e;rw[if_pos rfl,if_pos (by rw[iX];exact h),if_pos O9]
  ·rw[if_neg e,uH o k i hi];by_cases e2:i<k
   ·rw[if_pos e2,if_pos O9]
   ·rw[if_neg e2,if_neg O9]
 ·rw[if_neg O9,List.getElem?_eq_none (by rw[iX];omega),List.getElem?_eq_none (by rw[iX];omega)]
theorem l6(L:List Pr){k:Nat}{p:Pr}(h:L[k]? =some p):(L.flatMap fw)[k*2]? =some (.string p.1)∧(L.flatMap fw)[k*2+1]? =some (.string p.2):=by
 induction L generalizing k with
 |nil=>simp at h
 |cons q L ih=>
  cases k with
  |zero=>simp at h;subst h;simp[fw]
  |succ k=>
   obtain⟨h1,h2⟩:=ih (by simpa using h);rw[Nat.succ_mul,List.flatMap_cons];constructor
   ·rw[List.getElem?_append_right (by simp[fw])];simpa[fw]using h1
   ·rw[List.getElem?_append_right (by simp[fw])];(have:k*2+2+1-(fw q).length=k*2+1:=by simp[fw]);rw[this];exact h2
theorem tq(L:List Pr){k:Nat}(h:k<L.length)(p:Pr):((L.flatMap fw).set (k*2) (.string p.1)).set (k*2+1) (.string p.2)=(L.set k p).flatMap fw:=by
 induction L generalizing k with
 |nil=>simp at h
 |cons q L ih=>
  cases k with
  |zero=>simp[fw]
  |succ k=>
   have:=ih (k:=k) (by simpa using h);rw[Nat.succ_mul];simp only[fw,List.flatMap_cons,List.cons_append,List.nil_append,List.set_cons_succ]at this ⊢;rw[this]
theorem uI{W:World}{B n s:Nat}{t:TypeId}{v:Value}{xs:List Value}(h:W.ownsRow B t s v n xs)(hn:1≤n):∃g cap,v= .slice (some ⟨g,0,none⟩) n cap:=by
 rcases h.2 with⟨_,h0⟩|⟨g,cap,cur,hv,_⟩
 ·omega
 ·exact⟨g,cap,hv⟩
theorem zO(o:Ob)(rv tv:Value)(w:World)(hk:o.kind=2)(hr:ff w rv o.refs)(hl1:1≤o.refs.length)(hl:o.refs.length≤1000):Calls Tryz.prog 47 #[.agg (eN o rv tv)] w fun e w'=>∃v,e= .returned v∧w'.ownsRow w.heap.size 87 2 v (bw o).length ((bw o).flatMap fw)∧Below w.heap.size w w':=by
 obtain⟨j0,hj,hy0,hy1,hy2⟩:=aM xf;have HJ0:=aa hj;have HY0:=aa hy0;have HY1:=aa hy1;have HY2:=aa hy2;clear hj hy0 hy1 hy2;have hmx:Tryz.prog.follows .mixedOrders=true:=K9;obtain⟨A,c,rfl,hc,hs⟩:=hr;obtain⟨gr,og,rfl,hgr,hst⟩:=hs.resolve_left (fun e=>by rw[e]at hl1;simp at hl1);have HSN:Hid (br o=o.refs.length-1):=aa (by unfold br;rw[hk];rfl);have HSD:Hid (∀k,k+1<o.refs.length→sideAt o k=(o.refs.getD k ⟨#[]⟩,o.refs.getD (k+1) ⟨#[]⟩)):=aa (fun k h=>by unfold sideAt;rw[Nat.mod_eq_of_lt h])
 have HSE:Hid (sideAt o (o.refs.length-1)=(o.refs.getD (o.refs.length-1) ⟨#[]⟩,o.refs.getD 0 ⟨#[]⟩)):=aa (by unfold sideAt;rw[Nat.sub_add_cancel hl1,Nat.mod_self]);have HST:=aa hst;have HGR:=aa hgr;unfold eN;rw[hk];obtain⟨w1,hw1⟩:∃w1,w.alloc (.cells #[.string o.id,.int .i64 2,.int .i64 o.x,.int .i64 o.y,.slice (some ⟨gr,og,none⟩) o.refs.length c,tv] 47)=w1:=⟨_,rfl⟩;have hb1:Below w.heap.size w w1:=by rw[←hw1];exact(Below.refl _ _).alloc (Nat.le_refl _) _
 have hx1:w1.heap[w.heap.size]? =some (.cells #[.string o.id,.int .i64 2,.int .i64 o.x,.int .i64 o.y,.slice (some ⟨gr,og,none⟩) o.refs.length c,tv] 47 (0,0)):=by rw[←hw1];exact heap_alloc_new _ _
 obtain⟨d0,d1,d2,d3,d4,d5⟩:=eE hx1;have HB1:=aa hb1;have HX1:=aa hx1;have HR0:Hid (w1.ownsRow w1.heap.size 87 2 (.slice none 0 0) 0 ((nZ o 0).flatMap fw)):=aa (World.ownsRow_nil _ _ _ _);clear hb1 hx1 hst hgr hs hk;go_enter Tryz.func47,Tryz.ntmps47;go_wp2_with fail;clear hw1
 go_loopw [3,4] (fun vo i wr=>∃(k:Nat)(Ao:Option Addr)(co:Nat),k+1≤o.refs.length∧i= .int .i64 k∧vo= .slice Ao k co∧Hid (wr.ownsRow w1.heap.size 87 2 (.slice Ao k co) k ((nZ o k).flatMap fw))∧Hid (Below w1.heap.size w1 wr)) (fun _ i _=>o.refs.length-(intOf i).toNat)
 case atStart=>exact⟨0,none,0,O9,rfl,rfl,HR0,aa (Below.refl _ _)⟩
 case round=>
  clear HR0 d0 d1 d2 d3 d4 d5;obtain⟨k,Ao,co,hk,rfl,rfl,hro,hbr⟩:=hrel;have hx:=ai hbr.out HX1.out;obtain⟨d0,d1,d2,d3,d4,d5⟩:=eE hx;by_cases hlt:k+1<o.refs.length
  ·(have k0:(0:Int)≤(k:Nat):=by omega);have k1:((k:Nat):Int)<(o.refs.length:Nat):=O9;have k2:((k:Nat):Int)+1<(o.refs.length:Nat):=O9;have k3:(0:Int)≤((k:Nat):Int)+1:=O9;obtain⟨a,ha⟩:∃a,o.refs[k]? =some a:=⟨_,List.getElem?_eq_getElem O9⟩;obtain⟨b,hb⟩:∃b,o.refs[k+1]? =some b:=⟨_,List.getElem?_eq_getElem O9⟩;have HSK:Hid (sideAt o k=(a,b)):=aa (by rw[HSD.out k hlt,List.getD_eq_getElem?_getD,List.getD_eq_getElem?_getD,ha,hb];rfl);go_upto_region 7 with(fail)
   have HM:Hid (∀W,Below w1.heap.size w1 W→W.cell? ⟨w.heap.size,4,none⟩=some (.slice (some ⟨gr,og,none⟩) o.refs.length c)∧W.cell? ⟨gr,og+k,none⟩=some (.string a)∧W.cell? ⟨gr,og+(k+1),none⟩=some (.string b)):=aa (fun W hW=>⟨(eE (ai hW HX1.out)).2.2.2.2.1,((aq HB1.out hW).cell (p:=⟨gr,_,none⟩) HGR.out).trans (HST.out _ a ha),((aq HB1.out hW).cell (p:=⟨gr,_,none⟩) HGR.out).trans (HST.out _ b hb)⟩);refine aU (fun W=>Below w1.heap.size w1 W) 15 hmx ?_;have HRD:=aa (ao hro.out (aA wr))
   have HBD:=aa (aq hbr.out (aA wr));clear hro hbr hx d0 d1 d2 d3 d4 d5;generalize wr.drew=wd at*;have HS8:Hid (w1.heap.size≤(wd.alloc (.cells #[.string a,.string b] 87)).heap.size):=aa (Nat.le_trans HBD.out.size (by simp))
   have HNW:Hid (∀(j:Nat)(u:Value),[(Value.string a),(Value.string b)][j]? =some u→(wd.alloc (.cells #[.string a,.string b] 87)).cell? ((⟨wd.heap.size,0,none⟩:Addr).add j)=some u):=aa (fun j u hj=>World.news_of_block (cs:=#[.string a,.string b]) (t:=87) (fr:=(0,0)) (heap_alloc_new wd _) j u hj);have HRD2:=HRD;replace HRD:=aa (ao HRD.out ((Below.refl _ _).alloc (Nat.le_refl _) (.cells #[.string a,.string b] 87)));simp only[List.size_toArray,List.length_cons,List.length_nil,Nat.reduceAdd]
   refine wk 0 (.slice Ao k co) rfl (fun w hm=>rfl) ?_;refine wkg 1 (.pointer (some ⟨w.heap.size,4,none⟩)) rfl ?_;refine wk 2 (.slice (some ⟨gr,og,none⟩) o.refs.length c) rfl (fun w hm=>by obtain⟨m0,m1,m2⟩:=HM.out w hm;clear m1 m2;go_simp) ?_;refine wk 3 (.int .i64 k) rfl (fun w hm=>rfl) ?_;refine wkg 4 (.pointer (some ⟨gr,og+k,none⟩)) rfl ?_;refine wk 5 (.string a) rfl (fun w hm=>by obtain⟨m0,m1,m2⟩:=HM.out w hm;clear m0 m2;go_simp) ?_;refine wkg 6 (.pointer (some ⟨w.heap.size,4,none⟩)) rfl ?_
   refine wk 7 (.slice (some ⟨gr,og,none⟩) o.refs.length c) rfl (fun w hm=>by obtain⟨m0,m1,m2⟩:=HM.out w hm;clear m1 m2;go_simp) ?_;refine wkg 8 (.int .i64 k) rfl ?_;refine wk 9 (.int .i64 (((k:Nat):Int)+1)) rfl (fun w hm=>by go_simp;exact IntWalk.i64_in _ O9) ?_;refine wkg 10 (.pointer (some ⟨gr,og+(k+1),none⟩)) rfl ?_;refine wk 11 (.string b) rfl (fun w hm=>by obtain⟨m0,m1,m2⟩:=HM.out w hm;clear m0 m1;go_simp) ?_;refine wkg 12 (.agg #[.string a,.string b]) rfl ?_;refine wr1 13 HBD.out rfl (fun K' hK=>?_)
   go_simp;refine hK _ _ ?_;refine aG (rs:=[14]) K9 (by simp) (aq HBD.out ((Below.refl _ _).alloc (Nat.le_refl _) _)) ?_;refine wnM rfl (fun K' hK=>?_)
   refine step_append_lies _ rfl (.tmp 22) (.tmp 35) 116 rfl w1.heap.size 87 j0 (.agg #[.string ⟨#[]⟩,.string ⟨#[]⟩]) 2 32 Tryz.underlying116 HJ0.out HY0.out HY1.out HY2.out rfl (by decide) (.slice Ao k co) k ((nZ o k).flatMap fw) rfl HRD.out ⟨wd.heap.size,0,none⟩ 1 1 [.string a,.string b] rfl rfl HNW.out (fun u hu=>by simp at hu;rcases hu with rfl|rfl<;>rfl) (by decide) (by unfold maxLen;omega) O9 HS8.out (wd.heap.size+1) (by simp) ?_;intro g9 cap9 w9 hown9 hgrow9 hat9 hlt9
   have hb9:=ak (aq HBD.out ((Below.refl _ _).alloc (Nat.le_refl _) _)) hgrow9 (fun r e=>(aj HRD.out e).1);refine hK _ _ ?_;refine wr1 15 hb9 rfl (fun K' hK=>?_);go_simp;refine hK _ _ ?_;refine wdM ?_;have HO9:Hid (w9.ownsRow w1.heap.size 87 2 (.slice (some ⟨g9,0,none⟩) (k+1) cap9) (k+1) ((nZ o (k+1)).flatMap fw)):=aa (by rw[oV,List.flatMap_append,HSK.out];exact hown9);have HB9:=aa hb9;clear hown9 hgrow9 hat9 hlt9 hb9;go_simp;go_wp2_with fail;refine⟨⟨k+1,_,_,O9,by go_num,rfl,HO9,HB9⟩,?_⟩;simp[intOf];omega
  ·(have hke:k+1=o.refs.length:=by omega);have hk1:((k:Nat):Int)+1=(o.refs.length:Nat):=O9;have hk2:¬((o.refs.length:Nat):Int)<(o.refs.length:Nat):=O9;obtain⟨N,hN⟩:∃N,k=N:=⟨_,rfl⟩;subst hN;have HSN2:Hid (br o=k):=aa (by rw[HSN.out];omega);have HRO:Hid (wr.ownsRow w1.heap.size 87 2 (.slice Ao k co) k ((ju o 0).flatMap fw)):=aa (by rw[tp,HSN2.out];exact hro.out);have HBR:=aa hbr.out;have HN1:Hid (k≤1000):=aa O9;clear hro hx;go_wp2_with fail
   go_loopw [5] (fun i wr=>∃m:Nat,m≤k∧i= .int .i64 m∧Hid (wr.ownsRow w1.heap.size 87 2 (.slice Ao k co) k ((ju o m).flatMap fw))∧Hid (Below w1.heap.size w1 wr)) (fun i _=>k-(intOf i).toNat)
   case atStart=>exact⟨0,Nat.zero_le _,rfl,HRO,HBR⟩
   case round=>
    clear HRO HBR;obtain⟨m,hm,rfl,hro,hbr⟩:=hrel;have hn1:=HN1.out;by_cases hlt:m<k
    ·have HS:=aa hlt;obtain⟨g,cc,hv⟩:=uI hro.out O9;rw[Value.slice.injEq]at hv;obtain⟨rfl,_,rfl⟩:=hv;obtain⟨⟨a,b⟩,hab⟩:∃p,sideAt o m=p:=⟨_,rfl⟩;have HSK:=aa hab;have hmg:=xF o (k:=m) (by rw[HSN2.out];exact hlt);rw[hab]at hmg;obtain⟨f0,f1⟩:=l6 _ hmg;clear hab hmg;have k0:(0:Int)≤(m:Nat):=O9;have k1:((m:Nat):Int)<(k:Nat):=O9;go_upto_region 13 with(fail);refine aU (fun W=>W=wr.drew) 26 hmx ?_;have HRD:=aa (ao hro.out (aA wr));have HBD:=aa (aq hbr.out (aA wr));clear hro hbr;generalize wr.drew=wd at*
     have e0:=bg HRD.out _ _ f0;have e1:=bg HRD.out _ _ f1;have e2:=ez HRD.out (m*2);have e3:=ez HRD.out (m*2+1);clear f0 f1;simp only[List.size_toArray,List.length_cons,List.length_nil,Nat.reduceAdd];refine wkg 0 (.slice (some ⟨g,0,none⟩) k co) rfl ?_;refine wkg 1 (.int .i64 m) rfl ?_;refine wkg 2 (.slice (some ⟨g,0,none⟩) k co) rfl ?_;refine wkg 3 (.int .i64 m) rfl ?_;refine wkg 4 (.pointer (some ⟨g,m*2,none⟩)) rfl ?_;refine wkg 5 (.pointer (some ⟨g,m*2,none⟩)) rfl ?_
     refine wk 6 (.string a) rfl (fun w hm=>by subst hm;go_simp) ?_;refine wkg 7 (.slice (some ⟨g,0,none⟩) k co) rfl ?_;refine wkg 8 (.int .i64 m) rfl ?_;refine wkg 9 (.pointer (some ⟨g,m*2,none⟩)) rfl ?_;refine wkg 10 (.pointer (some ⟨g,m*2+1,none⟩)) rfl ?_;refine wk 11 (.string b) rfl (fun w hm=>by subst hm;go_simp) ?_;refine wkg 12 (.string (ck a b)) rfl ?_;refine wkg 13 (.slice (some ⟨g,0,none⟩) k co) rfl ?_;refine wkg 14 (.int .i64 m) rfl ?_;refine wkg 15 (.pointer (some ⟨g,m*2,none⟩)) rfl ?_
     refine wkg 16 (.pointer (some ⟨g,m*2,none⟩)) rfl ?_;refine wk 17 (.string a) rfl (fun w hm=>by subst hm;go_simp) ?_;refine wkg 18 (.slice (some ⟨g,0,none⟩) k co) rfl ?_;refine wkg 19 (.int .i64 m) rfl ?_;refine wkg 20 (.pointer (some ⟨g,m*2,none⟩)) rfl ?_;refine wkg 21 (.pointer (some ⟨g,m*2+1,none⟩)) rfl ?_;refine wk 22 (.string b) rfl (fun w hm=>by subst hm;go_simp) ?_;refine wkg 23 (.string (eu a b)) rfl ?_;refine wkg 24 (.agg #[.string (ck a b),.string (eu a b)]) rfl ?_
     refine wkg 25 (.pointer (some ⟨g,m*2,none⟩)) rfl ?_;refine wr1 26 rfl rfl (fun K' hK=>?_);go_simp;refine hK _ _ ?_;refine wdM ?_;have HO2:=dL (dL HRD.out (m*2) (.string (ck a b))) (m*2+1) (.string (eu a b));have HG2:=bt (dQ wd g (m*2) (.string (ck a b))) (dQ (wd.setCell ⟨g,m*2,none⟩ (.string (ck a b))) g (m*2+1) (.string (eu a b)));have HB2:=aa (ak HBD.out HG2 (fun r e=>by rw[←Option.some.inj e];exact(aj HRD.out (b:=g) rfl).1));rw[tq (ju o m) (by rw[iX,HSN2.out];exact HS.out) (ck a b,eu a b)]at HO2
     have HO9:Hid (((wd.setCell ⟨g,m*2,none⟩ (.string (ck a b))).setCell ⟨g,m*2+1,none⟩ (.string (eu a b))).ownsRow w1.heap.size 87 2 (.slice (some ⟨g,0,none⟩) k co) k ((ju o (m+1)).flatMap fw)):=aa (by rw[←xG o (by rw[HSN2.out];exact HS.out),HSK.out];exact HO2);clear HO2 HG2 HRD HBD;go_simp;go_wp2_with fail;refine⟨⟨m+1,HS.out,by go_num,HO9,HB2⟩,?_⟩;have:=HS.out;simp[intOf];omega
    ·(obtain rfl:m=k:=by omega);have k1:¬((m:Nat):Int)<(m:Nat):=O9;have HMA:Hid (ju o m=bw o):=aa (by rw[←HSN2.out];exact xE o);have HSL:Hid ((bw o).length=m):=aa (by rw[←HMA.out,iX];exact HSN2.out);go_wp2_with fail;go_ret;exact⟨_,rfl,by rw[HSL.out,←HMA.out];exact dN hro.out HB1.out.size,aq HB1.out hbr.out⟩
theorem zP(o:Ob)(rv tv:Value)(w:World)(hk:o.kind=3)(hr:ff w rv o.refs)(hl1:1≤o.refs.length)(hl:o.refs.length≤1000):Calls Tryz.prog 47 #[.agg (eN o rv tv)] w fun e w'=>∃v,e= .returned v∧w'.ownsRow w.heap.size 87 2 v (bw o).length ((bw o).flatMap fw)∧Below w.heap.size w w':=by
 obtain⟨j0,hj,hy0,hy1,hy2⟩:=aM xf;have HJ0:=aa hj;have HY0:=aa hy0;have HY1:=aa hy1;have HY2:=aa hy2;clear hj hy0 hy1 hy2;have hmx:Tryz.prog.follows .mixedOrders=true:=K9;obtain⟨A,c,rfl,hc,hs⟩:=hr;obtain⟨gr,og,rfl,hgr,hst⟩:=hs.resolve_left (fun e=>by rw[e]at hl1;simp at hl1);have HSN:Hid (br o=o.refs.length):=aa (by unfold br;rw[hk];rfl);have HSD:Hid (∀k,k+1<o.refs.length→sideAt o k=(o.refs.getD k ⟨#[]⟩,o.refs.getD (k+1) ⟨#[]⟩)):=aa (fun k h=>by unfold sideAt;rw[Nat.mod_eq_of_lt h])
 have HSE:Hid (sideAt o (o.refs.length-1)=(o.refs.getD (o.refs.length-1) ⟨#[]⟩,o.refs.getD 0 ⟨#[]⟩)):=aa (by unfold sideAt;rw[Nat.sub_add_cancel hl1,Nat.mod_self]);have HST:=aa hst;have HGR:=aa hgr;unfold eN;rw[hk];obtain⟨w1,hw1⟩:∃w1,w.alloc (.cells #[.string o.id,.int .i64 3,.int .i64 o.x,.int .i64 o.y,.slice (some ⟨gr,og,none⟩) o.refs.length c,tv] 47)=w1:=⟨_,rfl⟩;have hb1:Below w.heap.size w w1:=by rw[←hw1];exact(Below.refl _ _).alloc (Nat.le_refl _) _
 have hx1:w1.heap[w.heap.size]? =some (.cells #[.string o.id,.int .i64 3,.int .i64 o.x,.int .i64 o.y,.slice (some ⟨gr,og,none⟩) o.refs.length c,tv] 47 (0,0)):=by rw[←hw1];exact heap_alloc_new _ _
 obtain⟨d0,d1,d2,d3,d4,d5⟩:=eE hx1;have HB1:=aa hb1;have HX1:=aa hx1;have HR0:Hid (w1.ownsRow w1.heap.size 87 2 (.slice none 0 0) 0 ((nZ o 0).flatMap fw)):=aa (World.ownsRow_nil _ _ _ _);clear hb1 hx1 hst hgr hs hk;go_enter Tryz.func47,Tryz.ntmps47;go_wp2_with fail;clear hw1
 go_loopw [3,4] (fun vo i wr=>∃(k:Nat)(Ao:Option Addr)(co:Nat),k+1≤o.refs.length∧i= .int .i64 k∧vo= .slice Ao k co∧Hid (wr.ownsRow w1.heap.size 87 2 (.slice Ao k co) k ((nZ o k).flatMap fw))∧Hid (Below w1.heap.size w1 wr)) (fun _ i _=>o.refs.length-(intOf i).toNat)
 case atStart=>exact⟨0,none,0,O9,rfl,rfl,HR0,aa (Below.refl _ _)⟩
 case round=>
  clear HR0 d0 d1 d2 d3 d4 d5;obtain⟨k,Ao,co,hk,rfl,rfl,hro,hbr⟩:=hrel;have hx:=ai hbr.out HX1.out;obtain⟨d0,d1,d2,d3,d4,d5⟩:=eE hx;by_cases hlt:k+1<o.refs.length
  ·(have k0:(0:Int)≤(k:Nat):=by omega);have k1:((k:Nat):Int)<(o.refs.length:Nat):=O9;have k2:((k:Nat):Int)+1<(o.refs.length:Nat):=O9;have k3:(0:Int)≤((k:Nat):Int)+1:=O9;obtain⟨a,ha⟩:∃a,o.refs[k]? =some a:=⟨_,List.getElem?_eq_getElem O9⟩;obtain⟨b,hb⟩:∃b,o.refs[k+1]? =some b:=⟨_,List.getElem?_eq_getElem O9⟩;have HSK:Hid (sideAt o k=(a,b)):=aa (by rw[HSD.out k hlt,List.getD_eq_getElem?_getD,List.getD_eq_getElem?_getD,ha,hb];rfl);go_upto_region 7 with(fail)
   have HM:Hid (∀W,Below w1.heap.size w1 W→W.cell? ⟨w.heap.size,4,none⟩=some (.slice (some ⟨gr,og,none⟩) o.refs.length c)∧W.cell? ⟨gr,og+k,none⟩=some (.string a)∧W.cell? ⟨gr,og+(k+1),none⟩=some (.string b)):=aa (fun W hW=>⟨(eE (ai hW HX1.out)).2.2.2.2.1,((aq HB1.out hW).cell (p:=⟨gr,_,none⟩) HGR.out).trans (HST.out _ a ha),((aq HB1.out hW).cell (p:=⟨gr,_,none⟩) HGR.out).trans (HST.out _ b hb)⟩);refine aU (fun W=>Below w1.heap.size w1 W) 15 hmx ?_;have HRD:=aa (ao hro.out (aA wr))
   have HBD:=aa (aq hbr.out (aA wr));clear hro hbr hx d0 d1 d2 d3 d4 d5;generalize wr.drew=wd at*;have HS8:Hid (w1.heap.size≤(wd.alloc (.cells #[.string a,.string b] 87)).heap.size):=aa (Nat.le_trans HBD.out.size (by simp))
   have HNW:Hid (∀(j:Nat)(u:Value),[(Value.string a),(Value.string b)][j]? =some u→(wd.alloc (.cells #[.string a,.string b] 87)).cell? ((⟨wd.heap.size,0,none⟩:Addr).add j)=some u):=aa (fun j u hj=>World.news_of_block (cs:=#[.string a,.string b]) (t:=87) (fr:=(0,0)) (heap_alloc_new wd _) j u hj);have HRD2:=HRD;replace HRD:=aa (ao HRD.out ((Below.refl _ _).alloc (Nat.le_refl _) (.cells #[.string a,.string b] 87)));simp only[List.size_toArray,List.length_cons,List.length_nil,Nat.reduceAdd]
   refine wk 0 (.slice Ao k co) rfl (fun w hm=>rfl) ?_;refine wkg 1 (.pointer (some ⟨w.heap.size,4,none⟩)) rfl ?_;refine wk 2 (.slice (some ⟨gr,og,none⟩) o.refs.length c) rfl (fun w hm=>by obtain⟨m0,m1,m2⟩:=HM.out w hm;clear m1 m2;go_simp) ?_;refine wk 3 (.int .i64 k) rfl (fun w hm=>rfl) ?_;refine wkg 4 (.pointer (some ⟨gr,og+k,none⟩)) rfl ?_;refine wk 5 (.string a) rfl (fun w hm=>by obtain⟨m0,m1,m2⟩:=HM.out w hm;clear m0 m2;go_simp) ?_;refine wkg 6 (.pointer (some ⟨w.heap.size,4,none⟩)) rfl ?_
   refine wk 7 (.slice (some ⟨gr,og,none⟩) o.refs.length c) rfl (fun w hm=>by obtain⟨m0,m1,m2⟩:=HM.out w hm;clear m1 m2;go_simp) ?_;refine wkg 8 (.int .i64 k) rfl ?_;refine wk 9 (.int .i64 (((k:Nat):Int)+1)) rfl (fun w hm=>by go_simp;exact IntWalk.i64_in _ O9) ?_;refine wkg 10 (.pointer (some ⟨gr,og+(k+1),none⟩)) rfl ?_;refine wk 11 (.string b) rfl (fun w hm=>by obtain⟨m0,m1,m2⟩:=HM.out w hm;clear m0 m1;go_simp) ?_;refine wkg 12 (.agg #[.string a,.string b]) rfl ?_;refine wr1 13 HBD.out rfl (fun K' hK=>?_)
   go_simp;refine hK _ _ ?_;refine aG (rs:=[14]) K9 (by simp) (aq HBD.out ((Below.refl _ _).alloc (Nat.le_refl _) _)) ?_;refine wnM rfl (fun K' hK=>?_)
   refine step_append_lies _ rfl (.tmp 22) (.tmp 35) 116 rfl w1.heap.size 87 j0 (.agg #[.string ⟨#[]⟩,.string ⟨#[]⟩]) 2 32 Tryz.underlying116 HJ0.out HY0.out HY1.out HY2.out rfl (by decide) (.slice Ao k co) k ((nZ o k).flatMap fw) rfl HRD.out ⟨wd.heap.size,0,none⟩ 1 1 [.string a,.string b] rfl rfl HNW.out (fun u hu=>by simp at hu;rcases hu with rfl|rfl<;>rfl) (by decide) (by unfold maxLen;omega) O9 HS8.out (wd.heap.size+1) (by simp) ?_;intro g9 cap9 w9 hown9 hgrow9 hat9 hlt9
   have hb9:=ak (aq HBD.out ((Below.refl _ _).alloc (Nat.le_refl _) _)) hgrow9 (fun r e=>(aj HRD.out e).1);refine hK _ _ ?_;refine wr1 15 hb9 rfl (fun K' hK=>?_);go_simp;refine hK _ _ ?_;refine wdM ?_;have HO9:Hid (w9.ownsRow w1.heap.size 87 2 (.slice (some ⟨g9,0,none⟩) (k+1) cap9) (k+1) ((nZ o (k+1)).flatMap fw)):=aa (by rw[oV,List.flatMap_append,HSK.out];exact hown9);have HB9:=aa hb9;clear hown9 hgrow9 hat9 hlt9 hb9;go_simp;go_wp2_with fail;refine⟨⟨k+1,_,_,O9,by go_num,rfl,HO9,HB9⟩,?_⟩;simp[intOf];omega
  ·(have hke:k+1=o.refs.length:=by omega);have hk1:((k:Nat):Int)+1=(o.refs.length:Nat):=O9;have hk2:¬((o.refs.length:Nat):Int)<(o.refs.length:Nat):=O9;have k0:(0:Int)≤(k:Nat):=O9;have k1:((k:Nat):Int)<(o.refs.length:Nat):=O9;have k4:(0:Int)<(o.refs.length:Nat):=O9;have HNE:Hid (o.refs≠[]):=aa (fun e=>by rw[e]at hke;simp at hke);obtain⟨a,ha⟩:∃a,o.refs[k]? =some a:=⟨_,List.getElem?_eq_getElem O9⟩;obtain⟨b,hb⟩:∃b,o.refs[0]? =some b:=⟨_,List.getElem?_eq_getElem O9⟩;have HSK:Hid (sideAt o k=(a,b)):=aa (by
    have h1:k=o.refs.length-1:=O9;have:=HSE.out;rw[←h1]at this;rw[this,List.getD_eq_getElem?_getD,List.getD_eq_getElem?_getD,ha,hb];rfl)
   go_upto_region 9 with(fail);have HM:Hid (∀W,Below w1.heap.size w1 W→W.cell? ⟨w.heap.size,4,none⟩=some (.slice (some ⟨gr,og,none⟩) o.refs.length c)∧W.cell? ⟨gr,og+k,none⟩=some (.string a)∧W.cell? ⟨gr,og,none⟩=some (.string b)):=aa (fun W hW=>⟨(eE (ai hW HX1.out)).2.2.2.2.1,((aq HB1.out hW).cell (p:=⟨gr,_,none⟩) HGR.out).trans (HST.out _ a ha),((aq HB1.out hW).cell (p:=⟨gr,_,none⟩) HGR.out).trans (HST.out _ b hb)⟩);refine aU (fun W=>Below w1.heap.size w1 W) 16 hmx ?_;have HRD:=aa (ao hro.out (aA wr))
   have HBD:=aa (aq hbr.out (aA wr));clear hro hbr hx d0 d1 d2 d3 d4 d5;generalize wr.drew=wd at*;have HS8:Hid (w1.heap.size≤(wd.alloc (.cells #[.string a,.string b] 87)).heap.size):=aa (Nat.le_trans HBD.out.size (by simp))
   have HNW:Hid (∀(j:Nat)(u:Value),[(Value.string a),(Value.string b)][j]? =some u→(wd.alloc (.cells #[.string a,.string b] 87)).cell? ((⟨wd.heap.size,0,none⟩:Addr).add j)=some u):=aa (fun j u hj=>World.news_of_block (cs:=#[.string a,.string b]) (t:=87) (fr:=(0,0)) (heap_alloc_new wd _) j u hj);have HRD2:=HRD;replace HRD:=aa (ao HRD.out ((Below.refl _ _).alloc (Nat.le_refl _) (.cells #[.string a,.string b] 87)));simp only[List.size_toArray,List.length_cons,List.length_nil,Nat.reduceAdd]
   refine wkg 0 (.slice Ao k co) rfl ?_;refine wkg 1 (.pointer (some ⟨w.heap.size,4,none⟩)) rfl ?_;refine wk 2 (.slice (some ⟨gr,og,none⟩) o.refs.length c) rfl (fun w hm=>by obtain⟨m0,m1,m2⟩:=HM.out w hm;clear m1 m2;go_simp) ?_;refine wkg 3 (.pointer (some ⟨w.heap.size,4,none⟩)) rfl ?_;refine wk 4 (.slice (some ⟨gr,og,none⟩) o.refs.length c) rfl (fun w hm=>by obtain⟨m0,m1,m2⟩:=HM.out w hm;clear m1 m2;go_simp) ?_;refine wkg 5 (.int .i64 o.refs.length) rfl ?_
   refine wk 6 (.int .i64 k) rfl (fun w hm=>by go_simp;rw[IntWalk.i64_in _ O9];omega) ?_;refine wkg 7 (.pointer (some ⟨gr,og+k,none⟩)) rfl ?_;refine wk 8 (.string a) rfl (fun w hm=>by obtain⟨m0,m1,m2⟩:=HM.out w hm;clear m0 m2;go_simp) ?_;refine wkg 9 (.pointer (some ⟨w.heap.size,4,none⟩)) rfl ?_;refine wk 10 (.slice (some ⟨gr,og,none⟩) o.refs.length c) rfl (fun w hm=>by obtain⟨m0,m1,m2⟩:=HM.out w hm;clear m1 m2;go_simp) ?_
   refine wk 11 (.pointer (some ⟨gr,og,none⟩)) rfl (fun w hm=>by go_simp;exact fun h=>absurd h HNE.out) ?_;refine wk 12 (.string b) rfl (fun w hm=>by obtain⟨m0,m1,m2⟩:=HM.out w hm;clear m0 m1;go_simp) ?_;refine wkg 13 (.agg #[.string a,.string b]) rfl ?_;refine wr1 14 HBD.out rfl (fun K' hK=>?_);go_simp;refine hK _ _ ?_;refine aG (rs:=[15]) K9 (by simp) (aq HBD.out ((Below.refl _ _).alloc (Nat.le_refl _) _)) ?_;refine wnM rfl (fun K' hK=>?_)
   refine step_append_lies _ rfl (.tmp 40) (.tmp 54) 116 rfl w1.heap.size 87 j0 (.agg #[.string ⟨#[]⟩,.string ⟨#[]⟩]) 2 32 Tryz.underlying116 HJ0.out HY0.out HY1.out HY2.out rfl (by decide) (.slice Ao k co) k ((nZ o k).flatMap fw) rfl HRD.out ⟨wd.heap.size,0,none⟩ 1 1 [.string a,.string b] rfl rfl HNW.out (fun u hu=>by simp at hu;rcases hu with rfl|rfl<;>rfl) (by decide) (by unfold maxLen;omega) O9 HS8.out (wd.heap.size+1) (by simp) ?_;intro g9 cap9 w9 hown9 hgrow9 hat9 hlt9
   have hb9:=ak (aq HBD.out ((Below.refl _ _).alloc (Nat.le_refl _) _)) hgrow9 (fun r e=>(aj HRD.out e).1);refine hK _ _ ?_;refine wr1 16 hb9 rfl (fun K' hK=>?_);go_simp;refine hK _ _ ?_;refine wdM ?_;obtain⟨N,hN⟩:∃N,o.refs.length=N:=⟨_,rfl⟩;rw[hke,hN]at hown9;have HSN2:Hid (br o=N):=aa (by rw[HSN.out];exact hN);have HRO:Hid (w9.ownsRow w1.heap.size 87 2 (.slice (some ⟨g9,0,none⟩) N cap9) N ((ju o 0).flatMap fw)):=aa (by rw[tp,HSN2.out,←hN,←hke,oV,List.flatMap_append,HSK.out,hke,hN];exact hown9)
   have HBR:=aa hb9;have HN1:Hid (N≤1000):=aa O9;clear hown9 hgrow9 hat9 hlt9 hb9 HRD HBD HRD2;go_simp;clear hN;go_wp2_with fail;go_loopw [5] (fun i wr=>∃m:Nat,m≤N∧i= .int .i64 m∧Hid (wr.ownsRow w1.heap.size 87 2 (.slice (some ⟨g9,0,none⟩) N cap9) N ((ju o m).flatMap fw))∧Hid (Below w1.heap.size w1 wr)) (fun i _=>N-(intOf i).toNat)
   case atStart=>exact⟨0,Nat.zero_le _,rfl,HRO,HBR⟩
   case round=>
    clear HRO HBR;obtain⟨m,hm,rfl,hro,hbr⟩:=hrel;have hn1:=HN1.out;by_cases hlt:m<N
    ·have HS:=aa hlt;obtain⟨⟨a,b⟩,hab⟩:∃p,sideAt o m=p:=⟨_,rfl⟩;have HSK:=aa hab;have hmg:=xF o (k:=m) (by rw[HSN2.out];exact hlt);rw[hab]at hmg;obtain⟨f0,f1⟩:=l6 _ hmg;clear hab hmg;have k0:(0:Int)≤(m:Nat):=O9;have k1:((m:Nat):Int)<(N:Nat):=O9;go_upto_region 13 with(fail);refine aU (fun W=>W=wr.drew) 26 hmx ?_;have HRD:=aa (ao hro.out (aA wr));have HBD:=aa (aq hbr.out (aA wr));clear hro hbr;generalize wr.drew=wd at*;have e0:=bg HRD.out _ _ f0;have e1:=bg HRD.out _ _ f1;have e2:=ez HRD.out (m*2)
     have e3:=ez HRD.out (m*2+1);clear f0 f1;simp only[List.size_toArray,List.length_cons,List.length_nil,Nat.reduceAdd];refine wkg 0 (.slice (some ⟨g9,0,none⟩) N cap9) rfl ?_;refine wkg 1 (.int .i64 m) rfl ?_;refine wkg 2 (.slice (some ⟨g9,0,none⟩) N cap9) rfl ?_;refine wkg 3 (.int .i64 m) rfl ?_;refine wkg 4 (.pointer (some ⟨g9,m*2,none⟩)) rfl ?_;refine wkg 5 (.pointer (some ⟨g9,m*2,none⟩)) rfl ?_;refine wk 6 (.string a) rfl (fun w hm=>by subst hm;go_simp) ?_
     refine wkg 7 (.slice (some ⟨g9,0,none⟩) N cap9) rfl ?_;refine wkg 8 (.int .i64 m) rfl ?_;refine wkg 9 (.pointer (some ⟨g9,m*2,none⟩)) rfl ?_;refine wkg 10 (.pointer (some ⟨g9,m*2+1,none⟩)) rfl ?_;refine wk 11 (.string b) rfl (fun w hm=>by subst hm;go_simp) ?_;refine wkg 12 (.string (ck a b)) rfl ?_;refine wkg 13 (.slice (some ⟨g9,0,none⟩) N cap9) rfl ?_;refine wkg 14 (.int .i64 m) rfl ?_;refine wkg 15 (.pointer (some ⟨g9,m*2,none⟩)) rfl ?_;refine wkg 16 (.pointer (some ⟨g9,m*2,none⟩)) rfl ?_
     refine wk 17 (.string a) rfl (fun w hm=>by subst hm;go_simp) ?_;refine wkg 18 (.slice (some ⟨g9,0,none⟩) N cap9) rfl ?_;refine wkg 19 (.int .i64 m) rfl ?_;refine wkg 20 (.pointer (some ⟨g9,m*2,none⟩)) rfl ?_;refine wkg 21 (.pointer (some ⟨g9,m*2+1,none⟩)) rfl ?_;refine wk 22 (.string b) rfl (fun w hm=>by subst hm;go_simp) ?_;refine wkg 23 (.string (eu a b)) rfl ?_;refine wkg 24 (.agg #[.string (ck a b),.string (eu a b)]) rfl ?_;refine wkg 25 (.pointer (some ⟨g9,m*2,none⟩)) rfl ?_
     refine wr1 26 rfl rfl (fun K' hK=>?_);go_simp;refine hK _ _ ?_;refine wdM ?_;have HO2:=dL (dL HRD.out (m*2) (.string (ck a b))) (m*2+1) (.string (eu a b));have HG2:=bt (dQ wd g9 (m*2) (.string (ck a b))) (dQ (wd.setCell ⟨g9,m*2,none⟩ (.string (ck a b))) g9 (m*2+1) (.string (eu a b)));have HB2:=aa (ak HBD.out HG2 (fun r e=>by rw[←Option.some.inj e];exact(aj HRD.out (b:=g9) rfl).1));rw[tq (ju o m) (by rw[iX,HSN2.out];exact HS.out) (ck a b,eu a b)]at HO2
     have HO9:Hid (((wd.setCell ⟨g9,m*2,none⟩ (.string (ck a b))).setCell ⟨g9,m*2+1,none⟩ (.string (eu a b))).ownsRow w1.heap.size 87 2 (.slice (some ⟨g9,0,none⟩) N cap9) N ((ju o (m+1)).flatMap fw)):=aa (by rw[←xG o (by rw[HSN2.out];exact HS.out),HSK.out];exact HO2);clear HO2 HG2 HRD HBD;go_simp;go_wp2_with fail;refine⟨⟨m+1,HS.out,by go_num,HO9,HB2⟩,?_⟩;have:=HS.out;simp[intOf];omega
    ·(obtain rfl:m=N:=by omega);have k1:¬((m:Nat):Int)<(m:Nat):=O9;have HMA:Hid (ju o m=bw o):=aa (by rw[←HSN2.out];exact xE o);have HSL:Hid ((bw o).length=m):=aa (by rw[←HMA.out,iX];exact HSN2.out);go_wp2_with fail;go_ret;exact⟨_,rfl,by rw[HSL.out,←HMA.out];exact dN hro.out HB1.out.size,aq HB1.out hbr.out⟩
theorem zQ(o:Ob)(rv tv:Value)(w:World)(h2:o.kind≠2)(h3:o.kind≠3):Calls Tryz.prog 47 #[.agg (eN o rv tv)] w fun e w'=>∃v,e= .returned v∧w'.ownsRow w.heap.size 87 2 v (bw o).length ((bw o).flatMap fw)∧Below w.heap.size w w':=by
 have HSO:Hid (bw o=[]):=aa (by unfold bw br;rw[if_neg h3,if_neg h2];rfl);unfold eN;have e2:(o.kind != 2)=true:=by simpa using h2
 have e3:(o.kind != 3)=true:=by simpa using h3
 obtain⟨d0,d1,d2,d3,d4,d5⟩:=eE (heap_alloc_new w (.cells #[.string o.id,.int .i64 o.kind,.int .i64 o.x,.int .i64 o.y,rv,tv] 47));go_enter Tryz.func47,Tryz.ntmps47;go_wp2_with fail;go_ret;exact⟨_,rfl,by rw[HSO.out];exact World.ownsRow_nil _ _ _ _,(Below.refl _ _).alloc (Nat.le_refl _) _⟩
theorem Dn(o:Ob)(rv tv:Value)(w:World)(hr:ff w rv o.refs)(hl1:o.kind=2∨o.kind=3→1≤o.refs.length)(hl:o.refs.length≤1000):Calls Tryz.prog 47 #[.agg (eN o rv tv)] w fun e w'=>∃v,e= .returned v∧w'.ownsRow w.heap.size 87 2 v (bw o).length ((bw o).flatMap fw)∧Below w.heap.size w w':=by
 by_cases h2:o.kind=2
 ·exact zO o rv tv w h2 hr (hl1 (.inl h2)) hl
 ·by_cases h3:o.kind=3
  ·exact zP o rv tv w h3 hr (hl1 (.inr h3)) hl
  ·exact zQ o rv tv w h2 h3
end Go.Proofs.YtfkgjbdeicggaaaGreat
namespace Go.Proofs.YtfkgjbdeicggaaaGreat
open Go.RowKit Go.Proofs.Px Go.Proofs.Pn Go.Proofs.Pm Go.Proofs.Pg Go.Proofs.Pto
theorem aK{P:Program}{w:World}{o:Oper}{a:Act}{K:Act→World→Prop}{Q:Exit→Act→World→Prop}(s x:Operand)(t:TypeId)
  (ho:o.op= .call { callee:=.builtin .append,args:=#[s,x],argTypes:=#[t,t]})
  (base:Nat)(e:TypeId)(i:TypeInfo)(z:Value)(size bytes:Nat)(ht:P.underlying t=some (.slice e))(hi:P.info? e=some i)(hz:i.zero=some z)
  (hsize:i.size=size)(hby:i.bytes=bytes)(hzs:z.cells.size=size)(hsz:0<size)
  (g0 n cap0:Nat)(xs:List Value)(hs:a.eval s= .slice (some ⟨g0,0,none⟩) n cap0)(hown:w.ownsRow base e size (.slice (some ⟨g0,0,none⟩) n cap0) n xs)
  (ad:Addr)(m c:Nat)(news:List Value)(hx:a.eval x= .slice (some ad) m c)(hl:news.length=m*size)(hnews:∀j u,news[j]? =some u→w.cell? (ad.add j)=some u)(h1:∀u∈news,u.oneCell'=true)
  (h63:n+m≤maxLen)(hbytes:(n+m)*bytes≤140737488355328)(hbase:base≤w.heap.size)
  (h:∀g cap w',w'.ownsRow base e size (.slice (some ⟨g,0,none⟩) (n+m) cap) (n+m) (xs++news)→w.grownBy w' (some g0)→K (a.put o.dst (.slice (some ⟨g,0,none⟩) (n+m) cap)) w'):o.wp P a w K Q:=by
 obtain⟨v',w',hr,h2,h3,h4,_⟩:=run_append_own_at (P:=P) w base t o.type e i z size bytes ht hi hz hsize hby hzs hsz _ n xs hown ad m c news hl hnews h1 h63 hbytes hbase;have hne:v'≠ .slice none 0 0:=fun hv=>by
  have:=(h4.1 hv).1;cases this
 rcases h2.2 with⟨hv,_⟩|⟨g,cap,cur,rfl,_⟩
 ·exact absurd hv hne
 ·unfold Oper.wp execOp;simp only[ho,resolve,invoke,builtin,Sem.run_bind,Sem.run_pure,Result.andThen_ok,List.map_toArray,List.map_cons,List.map_nil,hs,hx,hr];exact h g cap w' h2 h3
theorem fx(W:World)(e:TypeId)(size:Nat):(W.alloc (.cells #[] e)).ownsRow W.heap.size e size (.slice (some ⟨W.heap.size,0,none⟩) 0 0) 0 []:=
 ⟨by simp,.inr ⟨W.heap.size,0,#[],rfl,Nat.le_refl _,heap_alloc_new _ _,Nat.le_refl _,by unfold maxLen;omega,by simp,by simp⟩⟩
theorem run_append_nil{P:Program}(w:World)(t ty e:TypeId)(i:TypeInfo)(ht:P.underlying t=some (.slice e))(hi:P.info? e=some i)(b:Option Addr)(n cap:Nat)(hc:n≤cap):(Builtin.append_ #[t,t] ty #[.slice b n cap,.slice none 0 0]).run P w= .ok (.slice b n cap) w:=by
 cases b with
 |none=>simp[Builtin.append_,run_underlying ht,sizeOf,typeInfo,hi,Builtin.lenOf,hc,Builtin.firstCells]
 |some a=>simp[Builtin.append_,run_underlying ht,sizeOf,typeInfo,hi,Builtin.lenOf,hc,Builtin.firstCells,storeCells]
theorem dR{P:Program}{w:World}{o:Oper}{a:Act}{K:Act→World→Prop}{Q:Exit→Act→World→Prop}(s x:Operand)(t:TypeId)
  (ho:o.op= .call { callee:=.builtin .append,args:=#[s,x],argTypes:=#[t,t]})
  (e:TypeId)(i:TypeInfo)(ht:P.underlying t=some (.slice e))(hi:P.info? e=some i)(b:Option Addr)(n cap:Nat)(hc:n≤cap)(hs:a.eval s= .slice b n cap)(hx:a.eval x= .slice none 0 0)
  (h:K (a.put o.dst (.slice b n cap)) w):o.wp P a w K Q:=by
 have hr:=run_append_nil (P:=P) w t o.type e i ht hi b n cap hc;unfold Oper.wp execOp;simp only[ho,resolve,invoke,builtin,Sem.run_bind,Sem.run_pure,Result.andThen_ok,List.map_toArray,List.map_cons,List.map_nil,hs,hx,hr];exact h
