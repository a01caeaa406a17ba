/-
  The reference's borders, walked.
-/
import Derived.Test.YtfkgjbdeicggaaaGreatZo
import Derived.Test.YtfkgjbdeicggaaaGreatZr
set_option maxHeartbeats 32000000
set_option maxRecDepth 100000
namespace Go.Proofs.YtfkgjbdeicggaaaGreat
open Go.RowKit Go.Proofs.Px Go.Proofs.Pn Go.Proofs.Pm Go.Proofs.Pg Go.Proofs.Pto
attribute [local go_sem] Oper.semAt_some eh ehx
theorem Dq(l:List Ob)(mv:Value)(D:Nat)(v:Value)(L:List (Pr×Value))(pa pb id:BA)(w0 w:World)(hm:fm w0 mv l)(hv:aZ l=true)(hb0:Below w0.heap.size w0 w)(h:n9 w0.heap.size (ar l) D v L w)(hnil:L=[]→v= .slice none 0 0)(hl:L.length≤1000)(hD:D≤1000)(hs:(L.map Prod.fst).Pairwise kC)(na:isNode l pa=true)(nb:isNode l pb=true):Calls Tryz.prog 48 #[v,.agg #[mv],.agg #[.string pa,.string pb],.string id] w fun e w'=>∃v' L',e= .returned v'∧n9 w0.heap.size (ar l) (D+1) v' L' w'∧L'.map Prod.fst=fY (pa,pb) (L.map Prod.fst)∧Below w0.heap.size w0 w'∧w.grownBy w' v.ownBlock:=by
 by_cases h0:L=[]
 ·rw[hnil h0,h0];exact F0 l mv D pa pb id w0 w hm hv hb0 na nb
 ·have h1:1≤L.length:=by
   cases L with
   |nil=>exact absurd rfl h0
   |cons a L=>simp
  obtain⟨g,cap,rfl⟩:=uI h.row h1;exact FY l mv D g cap L pa pb id w0 w hm hv hb0 h h1 hl hD hs na nb
theorem Hl(p:Pr)(L:List Pr):fY p L≠[]:=fun e=>by
 have:=(qu p p L).2 (.inl rfl);rw[e]at this;cases this
def oW(l:List Ob)(i:Nat)(o:Ob)(k:Nat):List Pr:=cS (cS [] ((l.take i).flatMap (bU l))) ((bw o).take k)
structure Gf(W:World)(mb:Nat)(mv:Value)(b5:Nat)(o:Ob)(rv tv sv:Value)(n:Nat)(B:Nat):Prop where
 mp:W.heap[mb]? =some (.cells #[mv] 24 (0,0))
 ob:W.heap[b5]? =some (.cells (eN o rv tv) 47 (0,0))
 sd:W.ownsRow B 87 2 sv n ((bw o).flatMap fw)
theorem Gf.below{W W':World}{mb b5 n B:Nat}{mv rv tv sv:Value}{o:Ob}(h:Gf W mb mv b5 o rv tv sv n B)(hb:Below W.heap.size W W'):Gf W' mb mv b5 o rv tv sv n B:=⟨ai hb h.mp,ai hb h.ob,ao h.sd hb⟩
theorem Gf.grow{W W':World}{mb b5 n B B2 m:Nat}{mv rv tv sv v:Value}{o:Ob}{xs:List Value}(h:Gf W mb mv b5 o rv tv sv n B)(hr:W.ownsRow B2 75 7 v m xs)(hg:W.grownBy W' v.ownBlock):Gf W' mb mv b5 o rv tv sv n B:=
 ⟨(hg.block _ (lt_of_block h.mp) (fun e=>eA hr h.mp (by decide) e)).trans h.mp,(hg.block _ (lt_of_block h.ob) (fun e=>eA hr h.ob (by decide) e)).trans h.ob,bG h.sd hg fun b hb e=>bR h.sd hr (by decide) b hb e⟩
structure Dr(w0:World)(l:List Ob)(P:List Pr)(n:Nat)(v:Value)(L:List (Pr×Value))(D:Nat)(W:World):Prop where
 bds:n9 w0.heap.size (ar l) D v L W
 nil:L=[]→v= .slice none 0 0
 fst:L.map Prod.fst=P
 len:L.length≤n
 dn:D≤n
 below:Below w0.heap.size w0 W
theorem Dr.lift{w0:World}{l:List Ob}{P:List Pr}{n:Nat}{v:Value}{L:List (Pr×Value)}{D:Nat}{W W':World}(h:Dr w0 l P n v L D W)(hb:Below W.heap.size W W'):Dr w0 l P n v L D W':=⟨h.bds.below hb,h.nil,h.fst,h.len,h.dn,aq h.below hb⟩
theorem Dr.more{w0:World}{l:List Ob}{P:List Pr}{n m:Nat}{v:Value}{L:List (Pr×Value)}{D:Nat}{W:World}(h:Dr w0 l P n v L D W)(hn:n≤m):Dr w0 l P m v L D W:=⟨h.bds,h.nil,h.fst,Nat.le_trans h.len hn,Nat.le_trans h.dn hn,h.below⟩
theorem Ds(l:List Ob)(i:Nat)(o:Ob):oW l i o 0=cS [] ((l.take i).flatMap (bU l)):=rfl
theorem oX(l:List Ob)(i:Nat)(o:Ob){k:Nat}{p:Pr}(h:(bw o)[k]? =some p):oW l i o (k+1)=fY p (oW l i o k):=by
 unfold oW;rw[List.take_add_one,h];exact vJ _ _ _
theorem F1(l:List Ob){i:Nat}{o:Ob}(ho:l[i]? =some o)(hb:bU l o=bw o):oW l i o (bw o).length=cS [] ((l.take (i+1)).flatMap (bU l)):=by
 unfold oW;rw[List.take_length,List.take_add_one,ho,List.flatMap_append];simp only[Option.toList_some,List.flatMap_cons,List.flatMap_nil,List.append_nil];rw[hb,yz]
theorem Dt(l:List Ob){i:Nat}{o:Ob}(ho:l[i]? =some o)(hb:bU l o=[]):cS [] ((l.take i).flatMap (bU l))=cS [] ((l.take (i+1)).flatMap (bU l)):=by
 rw[List.take_add_one,ho,List.flatMap_append];simp[hb]
theorem xI(l:List Ob)(i:Nat)(o:Ob)(k:Nat):(oW l i o k).Pairwise kC:=jt _ _ (jt _ _ List.Pairwise.nil)
theorem Hm(o:Ob):(bw o).length=br o:=by simp[bw]
theorem Du(o:Ob):br o≤o.refs.length:=by unfold br;(repeat' split)<;>omega
theorem rn{l:List Ob}{o:Ob}(h:dz l o=true):bU l o=bw o:=by
 unfold bU;by_cases hk:o.kind=2∨o.kind=3
 ·unfold dz at h;rw[if_neg O9,if_pos hk]at h;rw[if_pos ⟨hk,h⟩]
 ·rw[if_neg (fun e=>hk e.1)];unfold bw br;rw[if_neg (fun e=>hk (.inr e)),if_neg (fun e=>hk (.inl e))];rfl
theorem F2{l:List Ob}{o:Ob}(h:dz l o=false):bU l o=[]:=by
 unfold bU;by_cases hk:o.kind=2∨o.kind=3
 ·unfold dz at h;rw[if_neg O9,if_pos hk]at h;rw[if_neg (fun e=>by rw[e.2]at h;cases h)]
 ·rw[if_neg (fun e=>hk e.1)]
theorem Dv{l:List Ob}{o:Ob}(h:dz l o=true){p:Pr}(hp:p∈bw o):isNode l p.1=true∧isNode l p.2=true:=by
 rw[←rn h]at hp;exact(mE hp).2.2.2
theorem xJ{W:World}{B s n:Nat}{t:TypeId}{v:Value}{xs:List Value}(h:W.ownsRow B t s v n xs):∃A c,v= .slice A n c:=by
 rcases h.2 with⟨hv,hn⟩|⟨g,cap,cur,hv,_⟩
 ·exact⟨none,0,by rw[hv,hn]⟩
 ·exact⟨_,_,hv⟩
theorem xK(l:List Ob)(mv:Value)(w:World)(hv:fm w mv l)(hm:aZ l=true)(hsm:dZ l):Calls Tryz.prog 10 #[.agg #[mv]] w fun e w'=>∃v L D,e= .returned v∧n9 w.heap.size (ar l) D v L w'∧L.map Prod.fst=af l∧Below w.heap.size w w':=by
 have hmx:Tryz.prog.follows .mixedOrders=true:=K9;obtain⟨A,c,rfl,hcl,hA⟩:=id hv.obs;obtain⟨w1,hw1⟩:∃w1,w.alloc (.cells #[.slice A l.length c] 24)=w1:=⟨_,rfl⟩;have hb1:Below w.heap.size w w1:=by rw[←hw1];exact(Below.refl _ _).alloc (Nat.le_refl _) _
 have hx1:w1.heap[w.heap.size]? =some (.cells #[.slice A l.length c] 24 (0,0)):=by rw[←hw1];exact heap_alloc_new _ _
 have d0:=(cD hx1).1;have HVV:=aa (uj l _ w1 (hv.below hb1));have HV:=aa hv;have HM:=aa hm;have HSM:=aa hsm;have HX1:=aa hx1;have HB1:=aa hb1;have HA:=aa hA;have hl20:l.length≤20:=hsm.1;clear hb1 hx1 hv hm hsm hA;go_enter Tryz.func10,Tryz.ntmps10;go_wp2_with fail;clear hw1;refine HVV.out.mono ?_;rintro _ w2 ⟨rfl,hb2⟩;rw[HM.out];have HX2:=aa (ai hb2 HX1.out);have HB2:=aa (aq HB1.out hb2);clear HVV hb2 HX1 HB1 d0;go_wp2_with fail
 have HB0:Hid (Dr w l (cS [] ((l.take 0).flatMap (bU l))) 0 (.slice none 0 0) [] 0 w2):=aa ⟨⟨World.ownsRow_nil _ _ _ _,fun x hx=>by cases hx⟩,fun _=>rfl,rfl,Nat.le_refl _,Nat.le_refl _,HB2.out⟩
 go_loopw [3,4] (fun vo i wr=>∃(k:Nat)(Av:Option Addr)(cv:Nat)(L:List (Pr×Value))(D:Nat),k≤l.length∧i= .int .i64 k∧vo= .slice Av L.length cv∧Hid (Dr w l (cS [] ((l.take k).flatMap (bU l))) (12*k) (.slice Av L.length cv) L D wr)∧Hid (wr.heap[w.heap.size]? =some (.cells #[.slice A l.length c] 24 (0,0)))) (fun _ i _=>l.length-(intOf i).toNat)
 case atStart=>exact⟨0,none,0,[],0,Nat.zero_le _,rfl,rfl,HB0,HX2⟩
 case round=>
  clear HB0;obtain⟨k,Av,cv,L,D,hk,rfl,rfl,hbr,hbw⟩:=hrel;have d0:=(cD hbw.out).1;by_cases hlt:k<l.length
  ·(have k0:(0:Int)≤(k:Nat):=by omega);have k1:((k:Nat):Int)<(l.length:Nat):=O9;obtain⟨o,ho⟩:∃o,l[k]? =some o:=⟨_,List.getElem?_eq_getElem hlt⟩;have hol:=List.mem_of_getElem? ho;obtain⟨ga,oa,rfl,hga,hob⟩:=HA.out.resolve_left (by rintro rfl;simp at hlt);obtain⟨rv,tv,ob0⟩:=hob k o ho;have ob:=ob0.below hga hbr.out.below;obtain⟨e0,e1,e2,e3,e4,e5,hrv,htv⟩:=ob;obtain⟨Ar,cr,rfl,_⟩:=id hrv;obtain⟨At,ct,rfl,_⟩:=id htv;have HO:=aa ho;have HOL:=aa hol;have HRV:=aa ob0.refs;have HTV:=aa ob0.tags
   have HBR:=aa hbr.out;have HBW:=aa hbw.out;have HLT:=aa hlt;have hnx:=heap_alloc_new wr (.cells (eN o (.slice Ar o.refs.length cr) (.slice At o.tags.length ct)) 47);have hbx:Below wr.heap.size wr (wr.alloc (.cells (eN o (.slice Ar o.refs.length cr) (.slice At o.tags.length ct)) 47)):=(Below.refl _ _).alloc (Nat.le_refl _) _
   have HSD:=aa (Dn o (.slice Ar o.refs.length cr) (.slice At o.tags.length ct) (wr.alloc (.cells (eN o (.slice Ar o.refs.length cr) (.slice At o.tags.length ct)) 47)) (hrv.below hbx) (fun e=>by
    have h1:=ij (iD HM.out o hol);rcases e with e|e<;>rw[e]at h1<;>simp[eH]at h1<;>omega) (by have:=(HSM.out.2 o hol).2.1;omega))
   unfold eN at hnx hbx HSD;obtain⟨wa,hwa⟩:∃wa,wr.alloc (.cells #[.string o.id,.int .i64 o.kind,.int .i64 o.x,.int .i64 o.y,.slice Ar o.refs.length cr,.slice At o.tags.length ct] 47)=wa:=⟨_,rfl⟩;rw[hwa]at hnx hbx HSD;obtain⟨f0,f1,f2,f3,f4,f5⟩:=eE hnx;have HNX:=aa hnx;have HBX:=aa hbx;clear ho hol hob ob0 hrv htv hbr hbw hlt hk hnx hbx hga;go_wp2_with fail;refine HSD.out.mono ?_;rintro _ w3 ⟨sv,rfl,hsv,hb3⟩;obtain⟨n,hn⟩:∃n,(bw o).length=n:=⟨_,rfl⟩;rw[hn]at hsv;obtain⟨As,cs,rfl⟩:=xJ hsv
   have hn12:n≤12:=by
    have h1:=Hm o;have h2:=Du o;have h3:=(HSM.out.2 o HOL.out).2.1;omega
   have HN:=aa hn;have HSV:=aa hsv;have HBR3:Hid (Dr w l (oW l k o 0) (12*k+0) (.slice Av L.length cv) L D w3):=aa ((HBR.out.lift (aq HBX.out hb3)).more O9);obtain⟨b5,hb5⟩:∃b5,wr.heap.size=b5:=⟨_,rfl⟩;obtain⟨bs,hbs⟩:∃bs,wa.heap.size=bs:=⟨_,rfl⟩;have hk3:Gf w3 w.heap.size (.slice (some ⟨ga,oa,none⟩) l.length c) wr.heap.size o (.slice Ar o.refs.length cr) (.slice At o.tags.length ct) (.slice As n cs) n wa.heap.size:=⟨ai (aq HBX.out hb3) HBW.out,ai hb3 HNX.out,hsv⟩;rw[hb5,hbs]at hk3;have HK3:=aa hk3
   rw[hb5];clear hn hsv hb3 hb5 hbs hk3 HSV HSD HNX HBX HBR HBW e0 e1 e2 e3 e4 e5 f0 f1 f2 f3 f4 f5 hwa d0;go_wp2_with fail
   go_loopw [3,7] (fun vo j wq=>∃(m:Nat)(A2:Option Addr)(c2:Nat)(L2:List (Pr×Value))(D2:Nat),m≤n∧j= .int .i64 m∧vo= .slice A2 L2.length c2∧Hid (m=0∨dz l o=true)∧Hid (Dr w l (oW l k o m) (12*k+m) (.slice A2 L2.length c2) L2 D2 wq)∧Hid (Gf wq w.heap.size (.slice (some ⟨ga,oa,none⟩) l.length c) b5 o (.slice Ar o.refs.length cr) (.slice At o.tags.length ct) (.slice As n cs) n bs)) (fun _ j _=>n-(intOf j).toNat)
   case atStart=>exact⟨0,Av,cv,L,D,Nat.zero_le _,rfl,rfl,aa (.inl rfl),HBR3,HK3⟩
   case round=>
    clear HBR3 HK3;obtain⟨m,A2,c2,L2,D2,hmn,rfl,rfl,hor,hbr,hbw⟩:=hrel;have HOR:=aa hor.out;have HBR:=aa hbr.out;have HKP:=aa hbw.out;obtain⟨f0,f1,f2,f3,f4,f5⟩:=eE HKP.out.ob;have d0:=(cD HKP.out.mp).1;have hfin:dz l o=false∨m=n→oW l k o m=cS [] ((l.take (k+1)).flatMap (bU l)):=fun e=>by
     by_cases hs:dz l o=true
     ·have hmn2:m=n:=e.resolve_left (by rw[hs];simp);have:=F1 l HO.out (rn hs);rw[HN.out]at this;rw[hmn2,this]
     ·have h0:m=0:=HOR.out.resolve_right hs;rw[h0,Ds];exact Dt l HO.out (F2 (by simpa using hs))
    have HFIN:=aa hfin;clear hor hbr hbw hfin;by_cases hm2:m<n
    ·(have m0:(0:Int)≤(m:Nat):=by omega);have m1:((m:Nat):Int)<(n:Nat):=O9;have HM2:=aa hm2;have HSO:=aa (ph l _ HM.out (nw o.kind) o (.slice Ar o.refs.length cr) (.slice At o.tags.length ct) wr (Nat.le_refl _) HOL.out (HV.out.below HBR.out.below) (HRV.out.below HBR.out.below) (HTV.out.below HBR.out.below));unfold eN at HSO;clear hmn hm2;go_wp2_with fail;refine HSO.out.mono ?_;rintro _ w4 ⟨rfl,hb4⟩;have HBR4:=aa (HBR.out.lift hb4);have HKP4:=aa (HKP.out.below hb4)
     clear HSO hb4 HBR HKP f0 f1 f2 f3 f4 f5 d0;obtain⟨S,hS⟩:∃S,dz l o=S:=⟨_,rfl⟩;rw[hS];have HS:=aa hS;clear hS;cases S with
     |false=>
      have HE:Hid (Dr w l (cS [] ((l.take (k+1)).flatMap (bU l))) (12*(k+1)) (.slice A2 L2.length c2) L2 D2 w4):=aa (by
       rw[←HFIN.out (.inl HS.out)];exact HBR4.out.more (by have:=HM2.out;omega))
      have HBE:=aa HKP4.out.mp;go_wp2_with fail;refine⟨⟨k+1,A2,c2,L2,D2,HLT.out,by go_num,rfl,HE,HBE⟩,?_⟩;have:=HLT.out;simp[intOf];omega
     |true=>
      obtain⟨⟨pa,pb⟩,hp⟩:∃p,(bw o)[m]? =some p:=⟨_,List.getElem?_eq_getElem (by rw[HN.out];exact HM2.out)⟩;have hnd:=Dv HS.out (List.mem_of_getElem? hp);obtain⟨gs,cs2,hsv⟩:=uI HKP4.out.sd (by have:=HM2.out;omega);rw[Value.slice.injEq]at hsv;obtain⟨rfl,_,rfl⟩:=hsv;have HP:=aa hp;have hlen:=HBR4.out.len;have hdn:=HBR4.out.dn
      have HPT:Hid (∀W,Below w4.heap.size w4 W→Calls Tryz.prog 48 #[.slice A2 L2.length c2,.agg #[.slice (some ⟨ga,oa,none⟩) l.length c],.agg #[.string pa,.string pb],.string o.id] W fun e w'=>∃v' L',e= .returned v'∧Dr w l (oW l k o (m+1)) (12*k+(m+1)) v' L' (D2+1) w'∧Gf w' w.heap.size (.slice (some ⟨ga,oa,none⟩) l.length c) b5 o (.slice Ar o.refs.length cr) (.slice At o.tags.length ct) (.slice (some ⟨gs,0,none⟩) n cs) n bs):=aa (fun W hW=>(Dq l _ D2 _ L2 pa pb o.id w W HV.out HM.out (aq HBR4.out.below hW) (HBR4.out.bds.below hW) HBR4.out.nil (by have:=HM2.out;omega) (by have:=HM2.out;omega) (by rw[HBR4.out.fst];exact xI _ _ _ _) hnd.1 hnd.2).mono (by
       rintro e w' ⟨v',L',rfl,h1,h2,h3,h4⟩;rw[HBR4.out.fst,←oX l k o HP.out]at h2;(have h5:L'.length=(oW l k o (m+1)).length:=by rw[←h2,List.length_map]);have h6:=vK (pa,pb) (oW l k o m);rw[←oX l k o HP.out,←h5,←HBR4.out.fst,List.length_map]at h6;exact⟨v',L',rfl,⟨h1,fun e=>by rw[e,oX l k o HP.out]at h2;exact absurd h2.symm (Hl _ _),h2,O9,O9,h3⟩,(HKP4.out.below hW).grow (HBR4.out.bds.below hW).row h4⟩))
      clear hp hnd hlen hdn;go_wp2_with fail;refine aU (fun W=>Gf W w.heap.size (.slice (some ⟨ga,oa,none⟩) l.length c) b5 o (.slice Ar o.refs.length cr) (.slice At o.tags.length ct) (.slice (some ⟨gs,0,none⟩) n cs) n bs) 9 hmx ?_;have hB:=aA w4;have hM:=HKP4.out.below hB;clear HKP4 HBR4;generalize w4.drew=wd at*;simp only[List.size_toArray,List.length_cons,List.length_nil,Nat.reduceAdd];refine wk 0 (.slice A2 L2.length c2) rfl (fun w hm=>rfl) ?_
      refine wk 1 (.agg #[.slice (some ⟨ga,oa,none⟩) l.length c]) rfl (fun w hm=>by have m0:=(cD hm.mp).1;go_simp) ?_;refine wk 2 (.slice (some ⟨gs,0,none⟩) n cs) rfl (fun w hm=>rfl) ?_;refine wkg 3 (.int .i64 m) rfl ?_;refine wkg 4 (.pointer (some ⟨gs,m*2,none⟩)) rfl ?_;refine wk 5 (.agg #[.string pa,.string pb]) rfl (fun w hm=>by have m1:=bg hm.sd _ _ (l6 _ HP.out).1;have m2:=bg hm.sd _ _ (l6 _ HP.out).2;go_simp) ?_;refine wkg 6 (.pointer (some ⟨b5,0,none⟩)) rfl ?_
      refine wk 7 (.string o.id) rfl (fun w hm=>by have m3:=(eE hm.ob).1;go_simp) ?_;refine wr1 8 hM rfl (fun K' hK=>?_);go_simp;go_at_call 48;refine(HPT.out _ hB).mono ?_;rintro _ wu ⟨v9,L9,rfl,hbr9,hM⟩;obtain⟨A9,c9,rfl⟩:=xJ hbr9.bds.row;refine hK _ _ ?_;refine wr1 9 hM rfl (fun K' hK=>?_);go_simp;refine hK _ _ ?_;refine wdM ?_;have HE:=aa hbr9;have HKE:=aa hM;clear hbr9 hM hB;go_simp;go_wp2_with fail;refine⟨⟨m+1,A9,c9,L9,D2+1,HM2.out,by go_num,rfl,aa (.inr HS.out),HE,HKE⟩,?_⟩;have:=HM2.out;simp[intOf];omega
    ·(obtain rfl:m=n:=by omega);have m1:¬((m:Nat):Int)<(m:Nat):=O9;have HE:Hid (Dr w l (cS [] ((l.take (k+1)).flatMap (bU l))) (12*(k+1)) (.slice A2 L2.length c2) L2 D2 wr):=aa (by
      rw[←HFIN.out (.inr rfl)];exact HBR.out.more O9)
     have HBE:=aa HKP.out.mp;go_wp2_with fail;refine⟨⟨k+1,A2,c2,L2,D2,HLT.out,by go_num,rfl,HE,HBE⟩,?_⟩;have:=HLT.out;simp[intOf];omega
  ·(obtain rfl:k=l.length:=by omega);have k1:¬((l.length:Nat):Int)<(l.length:Nat):=O9;have HE:=aa hbr.out;clear hbr hbw;go_wp2_with fail;go_ret;exact⟨_,rfl,L,⟨D,HE.out.bds⟩,by rw[HE.out.fst,List.take_length];rfl,HE.out.below⟩
end Go.Proofs.YtfkgjbdeicggaaaGreat
namespace Go.Proofs.YtfkgjbdeicggaaaGreat
open Go.RowKit Go.Proofs.Px Go.Proofs.Pn Go.Proofs.Pm Go.Proofs.Pg Go.Proofs.Pto Go.Proofs.Pf
attribute [local go_sem] Oper.semAt_some run_makeMap
theorem F3(w:World):(zeroValue 9).run Tryz.prog w= .ok (.string ⟨#[]⟩) w:=K9
theorem F4{K:Type}[DecidableEq K](ml:List (K×Value))(x:K)(v:Value):(cR ml x v).map Prod.fst=if (aJ ml x).isSome then ml.map Prod.fst else ml.map Prod.fst++[x]:=by
 unfold cR;split
 ·rw[List.map_map];refine List.map_congr_left fun p _=>?_;simp only[Function.comp];split
  ·rename_i e;exact e.symm
  ·rfl
 ·simp
def oY(b:Nat)(V:List BA)(g:BA→BA)(W:World):Prop:=∃ml:List (BA×Value),cE W b ml∧ml.map Prod.fst=V∧V.Nodup∧∀v∈V,aJ ml v=some (.string (g v))
theorem oY.mem{V:List BA}{ml:List (BA×Value)}(h:ml.map Prod.fst=V)(x:BA):(aJ ml x).isSome=true↔x∈V:=by
 rw[eT,←h,List.mem_map]
theorem oY.kept{b:Nat}{V:List BA}{g:BA→BA}{W W':World}{r:Option Nat}(h:oY b V g W)(hg:W.grownBy W' r)(hne:some b≠r):oY b V g W':=by
 obtain⟨ml,h1,h2⟩:=h;exact⟨ml,h1.kept hg hne,h2⟩
theorem oY.congr{b:Nat}{V:List BA}{g g':BA→BA}{W:World}(h:oY b V g W)(e:∀v∈V,g v=g' v):oY b V g' W:=by
 obtain⟨ml,h1,h2,h3,h4⟩:=h;exact⟨ml,h1,h2,h3,fun v hv=>by rw[h4 v hv,e v hv]⟩
theorem oY.put{b:Nat}{V:List BA}{g:BA→BA}{W:World}(h:oY b V g W){x:BA}(s:BA)(hx:x.size≤maxLen)(hl:V.length<maxLen):∃W',(Instr.mapUpdate 119 (.map (some b)) (.string x) (.string s)).run Tryz.prog W= .ok () W'∧oY b (if x∈V then V else V++[x]) (fun v=>if v=x then s else g v) W'∧W.grownBy W' (some b):=by
 obtain⟨ml,h1,h2,h3,h4⟩:=h;obtain⟨W',hr,hm,ht⟩:=h1.store Tryz.underlying119 (by rw[←h2,List.length_map]at hl;exact hl) (x:=x) hx (.string s);have hk:=F4 ml x (.string s);by_cases hxV:x∈V
 ·have:=(oY.mem h2 x).2 hxV;rw[if_pos this,h2]at hk;refine⟨W',hr,⟨_,hm,by rw[if_pos hxV];exact hk,by rw[if_pos hxV];exact h3,fun v hv=>?_⟩,ht.grown⟩;rw[if_pos hxV]at hv;show _=some (Value.string (if v=x then s else g v));rw[cC];by_cases e:v=x
  ·rw[if_pos e,if_pos e]
  ·rw[if_neg e,if_neg e,h4 v hv]
 ·have:¬(aJ ml x).isSome=true:=fun h=>hxV ((oY.mem h2 x).1 h);rw[if_neg this,h2]at hk;refine⟨W',hr,⟨_,hm,by rw[if_neg hxV];exact hk,by rw[if_neg hxV];exact List.nodup_append.2 ⟨h3,by simp,fun a ha c hc e=>hxV (by rw[List.mem_singleton.1 hc]at e;rw[←e];exact ha)⟩,fun v hv=>?_⟩,ht.grown⟩;rw[if_neg hxV]at hv;show _=some (Value.string (if v=x then s else g v));rw[cC];by_cases e:v=x
  ·rw[if_pos e,if_pos e]
  ·rw[if_neg e,if_neg e];rcases List.mem_append.1 hv with hv|hv
   ·exact h4 v hv
   ·exact absurd (List.mem_singleton.1 hv) e
theorem oY.look{b:Nat}{V:List BA}{g:BA→BA}{W:World}(h:oY b V g W){x:BA}(hx:x.size≤maxLen)(hV:x∈V):(Instr.lookup 119 (.map (some b)) (.string x) false).run Tryz.prog W= .ok (.string (g x)) W:=by
 obtain⟨ml,h1,h2,h3,h4⟩:=h;have:=h1.look Tryz.underlying119 F3 (x:=x) hx;rw[h4 x hV,Option.getD_some]at this;exact this
noncomputable def F5(W:World)(b:Nat)(v:BA):BA:=match (Instr.lookup 119 (.map (some b)) (.string v) false).run Tryz.prog W with| .ok (.string s) _=>s|_=>⟨#[]⟩
theorem oY.lbl{b:Nat}{V:List BA}{g:BA→BA}{W:World}(h:oY b V g W)(hs:∀v∈V,v.size≤maxLen):∀v∈V,F5 W b v=g v:=fun v hv=>by
 unfold F5;rw[h.look (hs v hv) hv]
theorem mS{V:List BA}{g g':BA→BA}:∀ {L:List BA},(∀v∈L,g v=g' v)→fq V g L=fq V g' L
 | [],_=>rfl
 |a::L,h=>by
  unfold fq;rw[h a (List.mem_cons_self ..),mS fun v hv=>h v (List.mem_cons_of_mem _ hv)]
def Hn(W:World)(g:Nat)(B:List Pr):Prop:=∀(i:Nat)(p:Pr),B[i]? =some p→W.cell? ⟨g,i*7,none⟩=some (.string p.1)∧W.cell? ⟨g,i*7+1,none⟩=some (.string p.2)
theorem Hn.kept{W W':World}{g b:Nat}{B:List Pr}(h:Hn W g B)(hg:g<W.heap.size)(hw:W.grownBy W' (some b))(hne:g≠b):Hn W' g B:=fun i p hp=>by
 obtain⟨h1,h2⟩:=h i p hp;have hf:some g≠(some b:Option Nat):=fun e=>hne (Option.some.inj e);exact⟨(hw.cell_far ⟨g,_,none⟩ hg hf).trans h1,(hw.cell_far ⟨g,_,none⟩ hg hf).trans h2⟩
theorem lu(w:World)(r:Option Nat):w.grownBy w.drew r:=⟨rfl,rfl,rfl,Nat.le_refl _,fun _ _ _=>rfl⟩
theorem Dw{B:List Pr}{k:Nat}{p:Pr}(h:B[k]? =some p)(v:BA):(∃q∈B.take (k+1),fj q v)↔(∃q∈B.take k,fj q v)∨fj p v:=by
 rw[dC h];constructor
 ·rintro⟨q,hq,e⟩;rcases List.mem_append.1 hq with hq|hq
  ·exact .inl ⟨q,hq,e⟩
  ·rw[List.mem_singleton.1 hq]at e;exact .inr e
 ·rintro(⟨q,hq,e⟩|e)
  ·exact⟨q,List.mem_append_left _ hq,e⟩
  ·exact⟨p,List.mem_append_right _ (List.mem_singleton.2 rfl),e⟩
def pN(V:List BA)(x:BA):List BA:=if x∈V then V else V++[x]
theorem xL(V:List BA)(x v:BA):v∈pN V x↔v∈V∨v=x:=by
 unfold pN;split
 ·rename_i h;exact⟨.inl,fun h'=>h'.elim (fun h=>h) (fun e=>by rw[e];exact h)⟩
 ·rw[List.mem_append,List.mem_singleton]
theorem rp(V:List BA)(x:BA):(pN V x).length≤V.length+1:=by
 unfold pN;split
 ·omega
 ·rw[List.length_append];simp
theorem xM{x:BA}{left:BA→Bool}(p:BA→Bool)(hl:left x=true):∀ {V:List BA},V.Nodup→x∈V→(V.filter fun v=>left v&&p v).length=(V.filter fun v=>(left v&& !decide (v=x))&&p v).length+(if p x=true then 1 else 0)
 | [],_,h=>by cases h
 |a::V,hn,hx=>by
  obtain⟨h1,h2⟩:=List.nodup_cons.1 hn;by_cases e:x=a
  ·subst e;have:(V.filter fun v=>(left v&& !decide (v=x))&&p v)=V.filter fun v=>left v&&p v:=List.filter_congr fun v hv=>by
    have:v≠x:=fun e=>h1 (by rw[←e];exact hv);simp[this]
   rw[List.filter_cons,List.filter_cons,this,hl];cases p x<;>simp
  ·have ih:=xM p hl h2 ((List.mem_cons.1 hx).resolve_left e);have ne:¬a=x:=fun h=>e h.symm;rw[List.filter_cons,List.filter_cons];(have e2:((left a&& !decide (a=x))&&p a)=(left a&&p a):=by simp[ne]);rw[e2];cases (left a&&p a)
   ·rw[if_neg (by simp),if_neg (by simp)];exact ih
   ·rw[if_pos rfl,if_pos rfl,List.length_cons,List.length_cons,ih];omega
def JI:Value→Nat
 | .bool true=>1
 |_=>0
theorem zR(B:List Pr)(A:Option Addr)(c:Nat)(w:World)(hn:B.length≤240)(hA:B=[]∨∃g,A=some ⟨g,0,none⟩∧g<w.heap.size∧Hn w g B)(hs:∀p∈B,p.1.size≤60∧p.2.size≤60):Calls Tryz.prog 11 #[.slice A B.length c] w fun e w'=>∃x y,e= .returned (.tuple #[.int .i64 x,.int .i64 y])∧∃(V:List BA)(g:BA→BA),x=((V.filter fun v=>decide (v=g v)).length:Int)∧y=(V.length:Int)∧EX B V∧vU B V g∧(∀p∈B,g p.1=g p.2)∧Below w.heap.size w w':=by
 have hmx:Tryz.prog.follows .mixedOrders=true:=K9;obtain⟨bm,hbm⟩:∃z,w.heap.size=z:=⟨_,rfl⟩;obtain⟨w1,hw1⟩:∃z,w.alloc (.map #[] 0)=z:=⟨_,rfl⟩;have hb1:Below w.heap.size w w1:=by rw[←hw1];exact(Below.refl _ _).alloc (Nat.le_refl _) _
 have HJ0:Hid (oY bm [] id w1):=aa ⟨[],by rw[←hw1,←hbm];exact cK _ w,rfl,List.nodup_nil,fun v hv=>by cases hv⟩;have HB1:=aa hb1;have HBM:=aa hbm;have HW1:=aa hw1;have HA:Hid (B=[]∨∃g,A=some ⟨g,0,none⟩∧g<w.heap.size∧Hn w1 g B):=aa (hA.imp id (fun⟨g,e,h1,h2⟩=>⟨g,e,h1,fun i p hp=>by
  obtain⟨c1,c2⟩:=h2 i p hp;exact⟨(hb1.cell (p:=⟨g,_,none⟩) h1).trans c1,(hb1.cell (p:=⟨g,_,none⟩) h1).trans c2⟩⟩))
 have HS:=aa hs;obtain⟨n,hnn⟩:∃z,B.length=z:=⟨_,rfl⟩;have HNN:=aa hnn;rw[hnn]at hn ⊢;have HL1:Hid (w.heap.size<w1.heap.size):=aa (by rw[←hw1];simp);clear hA hs hb1 hnn hw1 hbm;go_enter Tryz.func11,Tryz.ntmps11;go_wp2_with fail;rw[HW1.out,HBM.out];go_loopw [5] (fun i wr=>∃(k:Nat)(V:List BA),k≤n∧i= .int .i64 k∧V.length≤2*k∧Hid (oY bm V id wr)∧Hid (∀v,v∈V↔∃p∈B.take k,fj p v)∧Hid (w1.grownBy wr (some bm))) (fun i _=>n-(intOf i).toNat)
 case atStart=>exact⟨0,[],Nat.zero_le _,rfl,Nat.zero_le _,HJ0,aa (fun v=>by simp),aa (xC _ _)⟩
 case round=>
  clear HJ0;obtain⟨k,V,hk,rfl,hvl,hj,hv,hgr⟩:=hrel;by_cases hlt:k<n
  ·(have hkl:k<B.length:=by rw[HNN.out];exact hlt);obtain⟨g,rfl,hg,hp⟩:=HA.out.resolve_left (by rintro rfl;simp at hkl);have hck:B[k]? =some B[k]:=List.getElem?_eq_getElem hkl;obtain⟨z1,z2⟩:=HS.out _ (List.getElem_mem hkl);(have hgb:g≠bm:=by have:=HBM.out;omega);have HGL:Hid (g<w1.heap.size):=aa (by have:=HL1.out;omega);have hpr:Hn wr g B:=hp.kept HGL.out hgr.out hgb;obtain⟨e1,e2⟩:=hpr k _ hck;generalize B[k]=p at*;obtain⟨a,b⟩:=p;simp only at z1 z2 e1 e2
   have hma:a.size≤maxLen:=Nat.le_trans z1 (by unfold maxLen;omega);have hmb:b.size≤maxLen:=Nat.le_trans z2 (by unfold maxLen;omega);obtain⟨W5,hst5,hj5,hg5⟩:=(hj.out.kept (aA wr |> aI) (by simp)).put a hma (by unfold maxLen;omega);replace hg5:=bt (lu wr _) hg5;have hpr5:Hn W5 g B:=hpr.kept (by have:=hgr.out.size;have:=HGL.out;omega) hg5 hgb;obtain⟨W6,hst6,hj6,hg6⟩:=(hj5.kept (aA W5 |> aI) (by simp)).put b hmb (by have:=rp V a;unfold pN at this;unfold maxLen;omega);replace hg6:=bt (lu W5 _) hg6
   have y1:wr.drew.cell? ⟨g,k*7,none⟩=some (.string a):=e1;have y2:W5.drew.cell? ⟨g,k*7+1,none⟩=some (.string b):=(hpr5 k _ hck).2;have HGR:Hid (w1.grownBy W6 (some bm)):=aa (bt hgr.out (bt hg5 hg6));have HJ6:Hid (oY bm (pN (pN V a) b) id W6):=aa (hj6.congr fun v _=>by
    show(if v=b then b else if v=a then a else v)=v;split
    ·rename_i e;exact e.symm
    ·split
     ·rename_i e;exact e.symm
     ·rfl)
   have HVV:Hid (∀v,v∈pN (pN V a) b↔∃p∈B.take (k+1),fj p v):=aa (fun v=>by
    rw[Dw hck,←hv.out v,xL,xL,or_assoc];rfl)
   have HLN:Hid ((pN (pN V a) b).length≤2*(k+1)):=aa (by have h1:=rp V a;have h2:=rp (pN V a) b;omega);have k0:(0:Int)≤k:=O9;have k1:(k:Int)<n:=O9;have HLT:=aa hlt;clear hpr hpr5 hj hv hgr hj5 hg5 hj6 hg6 hp hkl hck z1 z2 hma hmb hgb e1 e2 hlt;go_upto_region 5 with(fail);go_still_tail 11,K9;change wpList _ _ _ _ _ wr.drew;go_upto_region 6 with(fail);go_still_tail 11,K9;change wpList _ _ _ _ _ W5.drew;go_wp2_with fail;have hlt:=HLT.out;refine⟨⟨k+1,_,O9,by go_num,HLN.out,HJ6,HVV,HGR⟩,?_⟩
   simp[intOf];omega
  ·(have hkn:n=k:=by omega);subst hkn;rw[List.take_of_length_le (by rw[HNN.out];exact Nat.le_refl _)]at hv;(have hnd:V.Nodup:=by obtain⟨ml,_,_,h,_⟩:=hj.out;exact h);have HND:Hid (EX B V):=aa ⟨hnd,hv.out⟩;have hsz:∀v∈V,v.size≤maxLen:=fun v hvm=>by
    obtain⟨p,hp,e⟩:=(hv.out v).1 hvm;obtain⟨z1,z2⟩:=HS.out p hp;rcases e with rfl|rfl
    ·exact Nat.le_trans z1 (by unfold maxLen;omega)
    ·exact Nat.le_trans z2 (by unfold maxLen;omega)
   have HSZ:=aa hsz;have HEND:Hid (∀p∈B,p.1∈V∧p.2∈V):=aa (fun p hp=>⟨(hv.out _).2 ⟨p,hp,.inl rfl⟩,(hv.out _).2 ⟨p,hp,.inr rfl⟩⟩);have HJ1:=aa hj.out;have HGR1:=aa hgr.out;have HVL:=aa hvl;clear hv hnd hsz hj hgr hlt hk hvl;go_wp2_with fail;go_loopw [6] (fun ch wr=>∃(bc:Bool)(gl:BA→BA),ch= .bool bc∧Hid (oY bm V gl wr)∧Hid (vU B V gl)∧Hid (w1.grownBy wr (some bm))∧Hid (bc=false→∀p∈B,gl p.1=gl p.2)) (fun ch wr=>2*fq V (F5 wr bm) V+JI ch)
   case atStart=>exact⟨true,id,rfl,HJ1,aa (vU.start B V),HGR1,aa (fun h=>by cases h)⟩
   case round=>
    clear HJ1 HGR1;obtain⟨bc,g0,rfl,hj,hjo,hgr,hfin⟩:=hrel;cases bc with
    |true=>
     have HME:Hid (∀(W:World)(gl:BA→BA)(bc:Bool),oY bm V gl W→fq V gl V≤fq V g0 V→(bc=true→fq V gl V<fq V g0 V)→2*fq V (F5 W bm) V+JI (.bool bc)<2*fq V (F5 wr bm) V+JI (.bool true)):=aa (fun W gl bc h1 h2 h3=>by
      rw[mS (h1.lbl HSZ.out),mS (hj.out.lbl HSZ.out)];cases bc with
      |true=>have:=h3 rfl;show 2*_+1<2*_+1;omega
      |false=>show 2*_+0<2*_+1;omega)
     have HJ2:=aa hj.out;have HJO2:=aa hjo.out;have HGR2:=aa hgr.out;clear hj hjo hgr hfin;go_wp2_with fail;go_loopw [6,7] (fun ch i wr=>∃(j:Nat)(bc:Bool),j≤n∧i= .int .i64 j∧ch= .bool bc∧Hid (bc=qJ g0 (B.take j))∧Hid (oY bm V (gQ g0 (B.take j)) wr)∧Hid (vU B V (gQ g0 (B.take j)))∧Hid (fq V (gQ g0 (B.take j)) V≤fq V g0 V∧(bc=true→fq V (gQ g0 (B.take j)) V<fq V g0 V))∧Hid (w1.grownBy wr (some bm))) (fun _ i _=>n-(intOf i).toNat)
     case atStart=>exact⟨0,false,Nat.zero_le _,rfl,rfl,rfl,HJ2,HJO2,aa ⟨Nat.le_refl _,fun h=>by cases h⟩,HGR2⟩
     case round=>
      clear HJ2 HJO2 HGR2;obtain⟨j,bc,hj1,rfl,rfl,hbc,hj,hjo,hsm,hgr⟩:=hrel;by_cases hlt:j<n
      ·(have hkl:j<B.length:=by rw[HNN.out];exact hlt);obtain⟨g,rfl,hg,hp⟩:=HA.out.resolve_left (by rintro rfl;simp at hkl);have hck:B[j]? =some B[j]:=List.getElem?_eq_getElem hkl;have hpb:B[j]∈B:=List.getElem_mem hkl;obtain⟨z1,z2⟩:=HS.out _ hpb;obtain⟨v1,v2⟩:=HEND.out _ hpb;(have hgb:g≠bm:=by have:=HBM.out;omega);have HGL:Hid (g<w1.heap.size):=aa (by have:=HL1.out;omega);have hpr:Hn wr g B:=hp.kept HGL.out hgr.out hgb;obtain⟨e1,e2⟩:=hpr j _ hck
       (have hrun:gQ g0 (B.take (j+1))=gz (gQ g0 (B.take j)) B[j]:=by rw[dC hck,Ca]);(have hany:qJ g0 (B.take (j+1))=(bc||pI (gQ g0 (B.take j)) B[j]):=by rw[dC hck,sC,←hbc.out]);have hjo':=hjo.out.step hpb v1 v2;obtain⟨l1,l2⟩:=hjo.out.less v1 v2;rw[←hrun]at hjo' l1 l2;generalize hgk:gQ g0 (B.take j)=gk at*;generalize B[j]=p at*;obtain⟨a,b⟩:=p;simp only at z1 z2 e1 e2 v1 v2;have hma:a.size≤maxLen:=Nat.le_trans z1 (by unfold maxLen;omega);have hmb:b.size≤maxLen:=Nat.le_trans z2 (by unfold maxLen;omega)
       (have hlen:V.length<maxLen:=by have:=HVL.out;unfold maxLen;omega);have hjd:oY bm V gk wr.drew:=hj.out.kept (lu wr none) (by simp);have q1:=hjd.look hma v1;have q2:=hjd.look hmb v2;have y1:wr.drew.cell? ⟨g,j*7,none⟩=some (.string a):=e1;have y2:wr.drew.cell? ⟨g,j*7+1,none⟩=some (.string b):=e2;have k0:(0:Int)≤j:=O9;have k1:(j:Int)<n:=O9;obtain⟨m1,hm1⟩:∃z,gk a=z:=⟨_,rfl⟩;obtain⟨m2,hm2⟩:∃z,gk b=z:=⟨_,rfl⟩;have HM1:=aa hm1;have HM2:=aa hm2;rw[hm1]at q1;rw[hm2]at q2
       obtain⟨mm,hmm⟩:∃z,ck m1 m2=z:=⟨_,rfl⟩;have HMM:=aa hmm;(have q3:(Builtin.min_ #[9,9] 9 #[.string m1,.string m2]).run Tryz.prog wr.drew= .ok (.string mm) wr.drew:=by rw[←hmm];exact eh _ _ _ _);obtain⟨W5,hst5,hj5,hg5⟩:=hjd.put mm hma hlen;rw[if_pos v1]at hj5;obtain⟨W6,hst6,hj6,hg6⟩:=hj5.put mm hmb hlen;rw[if_pos v2]at hj6;have y3:W5.cell? ⟨g,j*7+1,none⟩=some (.string b):=((hpr.kept (by have:=hgr.out.size;have:=HGL.out;omega) (bt (lu wr _) hg5) hgb) j _ hck).2
       have HGR:Hid (w1.grownBy W6 (some bm)):=aa (bt hgr.out (bt (bt (lu wr _) hg5) hg6));have HJ6:Hid (oY bm V (gQ g0 (B.take (j+1))) W6):=aa (hj6.congr fun v _=>by
        rw[hrun];unfold gz;rw[hm1,hm2,hmm];(show(if v=b then mm else if v=a then mm else gk v)=if v=a∨v=b then mm else gk v);by_cases h1:v=b
        ·rw[if_pos h1,if_pos (.inr h1)]
        ·rw[if_neg h1];by_cases h2:v=a
         ·rw[if_pos h2,if_pos (.inl h2)]
         ·rw[if_neg h2,if_neg (fun h=>h.elim h2 h1)])
       have HCH:Hid (pI gk (a,b)=(decide (m1≠mm)||decide (m2≠mm))):=aa (by unfold pI;rw[hm1,hm2,hmm]);have HANY:=aa hany;have HJO:=aa hjo';have HSM:Hid (∀bc',bc'=(bc||pI gk (a,b))→fq V (gQ g0 (B.take (j+1))) V≤fq V g0 V∧(bc'=true→fq V (gQ g0 (B.take (j+1))) V<fq V g0 V)):=aa (fun bc' e=>by
        obtain⟨s1,s2⟩:=hsm.out;refine⟨O9,fun h=>?_⟩;rw[e,Bool.or_eq_true]at h;rcases h with h|h
        ·have:=s2 h;omega
        ·have:=l2 h;omega)
       have HLT:=aa hlt;clear hm1 hm2 hmm hj e1 e2 hj5 hj6 hg5 hg6 hpr hp hgr hrun hany hjo' hjo hsm hbc l1 l2 hjd hgk hck hpb v1 v2 hlt z1 z2 hma hmb hlen;go_upto_region 13 with(fail);go_still_tail 15,K9;change wpList _ _ _ _ _ wr.drew
       have fin:∀bc',bc'=(bc||(decide (m1≠mm)||decide (m2≠mm)))→(∃(j':Nat)(bc'':Bool),j'≤n∧Value.int .i64 ((j:Int)+1)= .int .i64 j'∧Value.bool bc'= .bool bc''∧Hid (bc''=qJ g0 (B.take j'))∧Hid (oY bm V (gQ g0 (B.take j')) W6)∧Hid (vU B V (gQ g0 (B.take j')))∧Hid (fq V (gQ g0 (B.take j')) V≤fq V g0 V∧(bc''=true→fq V (gQ g0 (B.take j')) V<fq V g0 V))∧Hid (w1.grownBy W6 (some bm))):=fun bc' e=>by
        (have e2:bc'=(bc||pI gk (a,b)):=by rw[e,HCH.out]);have hlt:=HLT.out;exact⟨j+1,bc',O9,by go_num,rfl,aa (by rw[HANY.out];exact e2),HJ6,HJO,aa (HSM.out bc' e2),HGR⟩
       have FIN:=aa fin;have hlt2:=HLT.out;clear fin;cases bc with
       |true=>
        go_wp2_with fail;refine⟨FIN.out _ (by simp),?_⟩;simp[intOf];omega
       |false=>
        by_cases c1:m1=mm
        ·by_cases c2:m2=mm
         ·subst c1;have c2':=c2.symm;subst c2';go_wp2_with fail;refine⟨FIN.out _ (by simp),?_⟩;simp[intOf];omega
         ·have f2:(m2.toList ==mm.toList)=false:=beq_eq_false_iff_ne.2 (fun e=>c2 (toList_inj.1 e));subst c1;go_wp2_with fail;refine⟨FIN.out _ (by simp[c2]),?_⟩;simp[intOf];omega
        ·have f1:(m1.toList ==mm.toList)=false:=beq_eq_false_iff_ne.2 (fun e=>c1 (toList_inj.1 e));go_wp2_with fail;refine⟨FIN.out _ (by simp[c1]),?_⟩;simp[intOf];omega
      ·(have hjn:n=j:=by omega);subst hjn;rw[List.take_of_length_le (by rw[HNN.out];exact Nat.le_refl _)]at hbc hj hjo hsm;have HJN:=aa hj.out;have HJO:=aa hjo.out;have HGR:=aa hgr.out;have HFI:Hid (bc=false→∀p∈B,gQ g0 B p.1=gQ g0 B p.2):=aa (fun h=>by
        obtain⟨e1,e2⟩:=sD B g0 (by rw[←hbc.out];exact h);rw[e1];exact e2)
       have HLE:=aa (HME.out wr (gQ g0 B) bc hj.out hsm.out.1 hsm.out.2);clear hbc hj hjo hsm hgr hlt;go_wp2_with fail;exact⟨⟨bc,_,rfl,HJN,HJO,HGR,HFI⟩,HLE.out⟩
    |false=>
     obtain⟨ml,hml,hmk,hnd,hgl⟩:=hj.out;obtain⟨wx,hrr,hrg,hgx,hsx⟩:=hml.range Tryz.underlying119;have HBX:Hid (Below w.heap.size w wx):=aa (ak (ak HB1.out hgr.out (fun r e=>by cases e;exact Nat.le_of_eq HBM.out)) hgx (fun r e=>by cases e));have HRG:=aa hrg;have HRB:Hid (w.heap.size≤wr.heap.size∧bm<wr.heap.size):=aa (by have h1:=hgr.out.size;have h2:=HL1.out;have h3:=HBM.out;omega);have HNDV:=aa hnd;have HGLV:=aa hgl;have HJOF:=aa hjo.out;have HFIN:=aa (hfin.out rfl)
     have HMLL:Hid (ml.length=V.length):=aa (by rw[←hmk,List.length_map]);have hvl:=HVL.out;obtain⟨rb,hrb⟩:∃z,wr.heap.size=z:=⟨_,rfl⟩;have HRBE:=aa hrb;have HMK:=aa hmk;rw[hrb]at hrr HRG HRB;clear hml hrg hgx hsx hj hjo hgr hfin hnd hgl hmk hrb;go_wp2_with fail;clear hrr
     go_loopw [9] (fun vc wr=>∃(q:Nat)(left:BA→Bool)(cn:Nat),vc= .int .i64 q∧q≤480∧Hid (bD (strKeys Tryz.prog 9 Tryz.underlying9) wr bm rb ml left cn)∧Hid (q+(V.filter fun v=>left v&&decide (v=g0 v)).length=(V.filter fun v=>decide (v=g0 v)).length)∧Hid (Below w.heap.size w wr)) (fun _ wr=>wr.rangeLeft bm rb)
     case atStart=>exact⟨0,_,_,rfl,O9,HRG,aa (by
      rw[Nat.zero_add];congr 1;refine List.filter_congr fun v hv=>?_;rw[(oY.mem HMK.out v).2 hv,Bool.true_and]),HBX⟩
     case round=>
      clear HRG HBX;obtain⟨q,left,cn,rfl,hq,hrg,hsum,hbw⟩:=hrel;rcases hrg.out.next with⟨hc0,hl0,hnx⟩|⟨x,u,w5,cnt',hok,hlx,hgx,hnx,hrg5,hlt5,hg5,hs5,hen⟩
      ·have hz:(V.filter fun v=>left v&&decide (v=g0 v)).length=0:=by
        rw[List.length_eq_zero_iff,List.filter_eq_nil_iff];intro v hv;rw[hl0 v (HSZ.out v hv)];simp
       have HQ:Hid ((q:Int)=((V.filter fun v=>decide (v=g0 v)).length:Int)):=aa (by have:=hsum.out;omega);have hln:=hrg.out.map.len Tryz.underlying119 3;rw[HMLL.out]at hln;have HBW:=aa hbw.out;clear hz hl0 hrg hsum hbw;go_wp2_with fail;go_ret2;exact⟨_,_,rfl,V,g0,HQ.out,rfl,HND.out,HJOF.out,HFIN.out,HBW.out⟩
      ·have hxV:x∈V:=(oY.mem HMK.out x).1 (by rw[hgx];rfl);(have hu:u= .string (g0 x):=by have:=HGLV.out x hxV;rw[hgx]at this;exact Option.some.inj this);subst hu;change ∀ty,(Instr.next (.pointer (some ⟨rb,0,none⟩)) false ty).run Tryz.prog wr= .ok (.tuple #[.bool true,.string x,.string (g0 x)]) w5 at hnx;change (Instr.entry (.pointer (some ⟨rb,0,none⟩))).run Tryz.prog w5= .ok (.tuple #[.string x,.string (g0 x)]) w5 at hen;have hst:=xM (fun v=>decide (v=g0 v)) hlx HNDV.out hxV
       have htot:(V.filter fun v=>decide (v=g0 v)).length≤V.length:=List.length_filter_le _ _;have HSUM:=aa hsum.out;have HM9:Hid (∀W,bD (strKeys Tryz.prog 9 Tryz.underlying9) W bm rb ml (fun y=>left y&& !decide (y=x)) cnt'→W.rangeLeft bm rb<wr.rangeLeft bm rb):=aa (fun W h=>by rw[h.left_eq,hrg.out.left_eq];exact hlt5);have HR5:=aa hrg5;have HB5:Hid (Below w.heap.size w w5):=aa (ak hbw.out hg5 (fun r e=>by cases e;exact HRB.out.1));obtain⟨y,hy⟩:∃z,g0 x=z:=⟨_,rfl⟩;rw[hy]at hnx hen hst;by_cases e:x=y
       ·rw[if_pos (by simpa using e)]at hst;(have hq1:q+1≤480:=by have:=HSUM.out;omega);have HS9:Hid (q+1+(V.filter fun v=>(left v&& !decide (v=x))&&decide (v=g0 v)).length=(V.filter fun v=>decide (v=g0 v)).length):=aa (by have:=HSUM.out;omega);have e':=e.symm;subst e';clear hst hsum hrg hrg5 hlt5 hg5 hs5 hok hlx hgx hbw htot hy hxV;go_wp2_with fail;exact⟨⟨q+1,_,cnt',by go_num,hq1,HR5,HS9,HB5⟩,HM9.out _ HR5.out⟩
       ·rw[if_neg (by simpa using e)]at hst;have f1:(x.toList ==y.toList)=false:=beq_eq_false_iff_ne.2 (fun h=>e (toList_inj.1 h));have HS9:Hid (q+(V.filter fun v=>(left v&& !decide (v=x))&&decide (v=g0 v)).length=(V.filter fun v=>decide (v=g0 v)).length):=aa (by have:=HSUM.out;omega);clear hst hsum hrg hrg5 hlt5 hg5 hs5 hok hlx hgx hbw htot hy hxV e;go_wp2_with fail;exact⟨⟨q,_,cnt',rfl,hq,HR5,HS9,HB5⟩,HM9.out _ HR5.out⟩
