/-
  Objects in memory; atlas.Valid, walked.
-/
import Derived.Test.YtfkgjbdeicggaaaGreatZP
set_option maxHeartbeats 8000000
set_option maxRecDepth 100000
namespace Go.Proofs.YtfkgjbdeicggaaaGreat
open Go.RowKit Go.Proofs.Px Go.Proofs.Pn Go.Proofs.Pm
structure Cj(W:World)(g o:Nat)(ob:Ob)(rv tv:Value):Prop where
 c0:W.cell? ⟨g,o,none⟩=some (.string ob.id)
 c1:W.cell? ⟨g,o+1,none⟩=some (.int .i64 ob.kind)
 c2:W.cell? ⟨g,o+2,none⟩=some (.int .i64 ob.x)
 c3:W.cell? ⟨g,o+3,none⟩=some (.int .i64 ob.y)
 c4:W.cell? ⟨g,o+4,none⟩=some rv
 c5:W.cell? ⟨g,o+5,none⟩=some tv
 refs:ff W rv ob.refs
 tags:qO W tv ob.tags
theorem Cj.below{W W':World}{g o:Nat}{ob:Ob}{rv tv:Value}(h:Cj W g o ob rv tv)(hg:g<W.heap.size)(hb:Below W.heap.size W W'):Cj W' g o ob rv tv:=
 ⟨(hb.cell (p:=⟨g,_,none⟩) hg).trans h.c0,(hb.cell (p:=⟨g,_,none⟩) hg).trans h.c1,(hb.cell (p:=⟨g,_,none⟩) hg).trans h.c2,(hb.cell (p:=⟨g,_,none⟩) hg).trans h.c3,(hb.cell (p:=⟨g,_,none⟩) hg).trans h.c4,(hb.cell (p:=⟨g,_,none⟩) hg).trans h.c5,h.refs.below hb,h.tags.below hb⟩
def GU(W:World)(g o:Nat)(l:List Ob):Prop:=∀(i:Nat) ob,l[i]? =some ob→∃rv tv,Cj W g (o+i*6) ob rv tv
theorem GU.below{W W':World}{g o:Nat}{l:List Ob}(h:GU W g o l)(hg:g<W.heap.size)(hb:Below W.heap.size W W'):GU W' g o l:=fun i ob hi=>by
 obtain⟨rv,tv,hx⟩:=h i ob hi;exact⟨rv,tv,hx.below hg hb⟩
def wJ(W:World)(v:Value)(l:List Ob):Prop:=∃A c,v= .slice A l.length c∧l.length≤c∧(l=[]∨∃g o,A=some ⟨g,o,none⟩∧g<W.heap.size∧GU W g o l)
theorem wJ.below{W W':World}{v:Value}{l:List Ob}(h:wJ W v l)(hb:Below W.heap.size W W'):wJ W' v l:=by
 obtain⟨A,c,hv,hc,h⟩:=h;refine⟨A,c,hv,hc,?_⟩;rcases h with h|⟨g,o,hA,hg,hp⟩
 ·exact .inl h
 ·exact .inr ⟨g,o,hA,Nat.lt_of_lt_of_le hg hb.size,hp.below hg hb⟩
theorem ue(l:List Ob)(k:Nat)(h:k<l.length):l.drop k=l[k]::l.drop (k+1):=List.drop_eq_getElem_cons h
theorem iP(l:List Ob)(v:Value)(w:World)(hv:wJ w v l)(hl:l.length≤100000)(hs:∀o∈l,BW o):Calls Tryz.prog 7 #[.agg #[v]] w fun e w'=>e= .returned (.bool (aZ l))∧Below w.heap.size w w':=by
 obtain⟨R,hR⟩:∃R,aZ l=R:=⟨_,rfl⟩;rw[hR];have HR:=aa hR;obtain⟨A,c,rfl,_,hA⟩:=hv;have HA:=aa hA;have HS:=aa hs;clear hR hA hs;go_enter Tryz.func7,Tryz.ntmps7;obtain⟨wa,hwa⟩:∃wa,w.alloc (.cells #[.slice A l.length c] 24)=wa:=⟨_,rfl⟩;have ha:Below w.heap.size w wa:=by rw[←hwa];exact(Below.refl _ _).alloc (Nat.le_refl _) _
 have hm:wa.heap[w.heap.size]? =some (.cells #[.slice A l.length c] 24 (0,0)):=by rw[←hwa];exact heap_alloc_new w _
 have dm:=(cD hm).1;go_wp2_with fail;have HM:=aa hm;have HWA:=aa ha;clear dm hm hwa ha;go_loopw [3,9] (fun s i wr=>∃(k:Nat)(last:ByteArray),k≤l.length∧i= .int .i64 k∧s= .string last∧Hid (Below wa.heap.size wa wr)∧Hid ((mC last (l.drop k)&&decide (l.length≤1000000))=R)) (fun _ i _=>l.length-(intOf i).toNat)
 case atStart=>exact⟨0,⟨#[]⟩,Nat.zero_le _,rfl,rfl,Below.refl _ _,HR⟩
 case round=>
  obtain⟨k,last,hk,rfl,rfl,hb,hr⟩:=hrel;by_cases hlt:k<l.length
  ·obtain⟨g,o,rfl,hg,hp⟩:=HA.out.resolve_left (by rintro rfl;simp at hlt);obtain⟨rv,tv,hoa⟩:=hp k _ (List.getElem?_eq_getElem hlt);obtain⟨Ar,cr,hrv,_⟩:=id hoa.refs;obtain⟨At,ct,htv,_⟩:=id hoa.tags;subst hrv;subst htv;have hb2:=aq HWA.out hb.out;have hoa2:=hoa.below hg hb2;obtain⟨c0,c1,c2,c3,c4,c5,hrf,htg⟩:=hoa2;have hr2:=hr.out;rw[ue l k hlt,mC]at hr2;have hmem:l[k]∈l:=List.getElem_mem hlt;have hok:=HS.out _ hmem;generalize l[k]=t at*;have k0:(0:Int)≤k:=O9;have k1:(k:Int)<l.length:=O9
   have HL:=aa hlt;have HMS:=aa (show l.length-(k+1)<l.length-k from by omega);have HR2:=aa hr2;have hb3:Below wr.heap.size wr (wr.alloc (.cells (eN t (.slice Ar t.refs.length cr) (.slice At t.tags.length ct)) 47)):=(Below.refl _ _).alloc (Nat.le_refl _) _;have HV:=aa (yS t (.slice Ar t.refs.length cr) (.slice At t.tags.length ct) (wr.alloc (.cells (eN t (.slice Ar t.refs.length cr) (.slice At t.tags.length ct)) 47)) (hrf.below hb3) (htg.below hb3) hok);have HB3:=aa hb3;have HBR:=aa hb.out
   clear hr hr2 hmem hok hp hlt hoa hrf htg hb hb2 hb3;unfold eN at HV HB3;go_wp2_with fail;obtain⟨wo,hwo⟩:∃wo,wr.alloc (.cells #[.string t.id,.int .i64 t.kind,.int .i64 t.x,.int .i64 t.y,.slice Ar t.refs.length cr,.slice At t.tags.length ct] 47)=wo:=⟨_,rfl⟩;(have hblk:wo.heap[wr.heap.size]? =some (.cells #[.string t.id,.int .i64 t.kind,.int .i64 t.x,.int .i64 t.y,.slice Ar t.refs.length cr,.slice At t.tags.length ct] 47 (0,0)):=by rw[←hwo];exact heap_alloc_new _ _);rw[hwo]at HV HB3 ⊢
   refine HV.out.mono ?_;rintro _ w2 ⟨rfl,b2⟩;have HB2:=aa (aq HBR.out (aq HB3.out b2));have d1:=cell_of_row w2 _ 0 _ _ _ (ai b2 hblk);simp only[List.getElem?_toArray,List.getElem?_cons_zero]at d1;clear hwo hblk b2 c0 c1 c2 c3 c4 c5 HV HB3;have HBW:=aa (aq HWA.out HB2.out);cases hn:lJ t with
   |false=>
    have HZ:=aa (show R=false from by rw[←HR2.out,hn];simp);clear hn;go_wp2_with fail;go_ret;exact⟨ag HZ.out.symm,HBW.out⟩
   |true=>
    cases hb1:Go.Op.bytesLess t.id.toList last.toList with
    |true=>
     have HZ:=aa (show R=false from by rw[←HR2.out,hb1];simp);clear hn;go_wp2_with fail;go_ret;exact⟨ag HZ.out.symm,HBW.out⟩
    |false=>
     cases hb2:(t.id.toList ==last.toList)with
     |true=>
      have HZ:=aa (show R=false from by rw[←HR2.out,hb2];simp);(have hb3:t.id.toList=last.toList:=by simpa using hb2);clear hn;go_wp2_with fail;go_ret;exact⟨ag HZ.out.symm,HBW.out⟩
     |false=>
      (have hb3:¬t.id.toList=last.toList:=by simpa using hb2);have HZ:=aa (show(mC t.id (l.drop (k+1))&&decide (l.length≤1000000))=R from by
       rw[←HR2.out,hn,hb1,hb2];rfl)
      clear hn;go_wp2_with fail;refine⟨⟨k+1,t.id,HL.out,by go_num,rfl,HB2,HZ⟩,?_⟩;have:=HMS.out;simp[intOf];omega
  ·have hz:decide (l.length≤1000000)=R:=by
    rw[←hr.out,List.drop_eq_nil_of_le O9];rfl
   have HZ:=aa hz;have HB:=aa (aq HWA.out hb.out);have dm:=(cD (ai hb.out HM.out)).1;have h7:(l.length:Int)≤1000000:=O9;have h8:l.length≤1000000:=O9;clear hz hr hb;go_wp2_with fail;go_ret;exact⟨ag (by rw[←HZ.out,decide_eq_true h8]),HB.out⟩
