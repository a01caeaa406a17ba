/-
  The faces of a map, walked.
-/
import Derived.Test.YtfkgjbdeicggaaaGreatZk
import Derived.Test.YtfkgjbdeicggaaaGreatZl
import Derived.Test.YtfkgjbdeicggaaaGreatZm
set_option maxHeartbeats 32000000
set_option maxRecDepth 100000
namespace Go.Proofs.YtfkgjbdeicggaaaGreat
open Go.RowKit Go.Proofs.Px Go.Proofs.Pn Go.Proofs.Pm Go.Proofs.Pg Go.Proofs.Pto Go.Proofs.Pf
attribute [local go_sem] Oper.semAt_some
theorem Dk:(Tryz.prog.info? 42).map (fun i=>(i.zero,i.size,i.bytes))=some (some (.agg #[.slice none 0 0,.slice none 0 0,.slice none 0 0]),3,72):=K9
theorem uG{l:List Ob}{nb:BA→List BA}{cs:List (List BA)}(h:DK l nb cs)(hn:(an l).Nodup):cs.length≤(an l).length∧∀c∈cs,c.length≤(an l).length:=
 (p6 (done:=fun s=>s∈cs.flatMap bE) ⟨h.cyc,(h.all.nodup_iff).2 hn,fun _=>Iff.rfl⟩).2
theorem lZ{l:List Ob}(h:dZ l):(an l).length≤480:=by
 have:=e9 h;unfold an;simp;omega
theorem gK{l:List Ob}(h:dZ l){s:eM}(hs:s∈an l):s.1.size≤60∧s.2.size≤60:=by
 rcases ev.1 hs with g|g
 ·exact bO h g
 ·exact(bO h g).symm
def DQ(W:World)(l:List Ob)(outs:List (List BA))(M:Nat→List Ob)(ho:Nat→List (List BA))(fs:List Fa):Prop:=
 fs.length=outs.length+1∧∀(k:Nat)(f:Fa),fs[k]? =some f→f.ol=([]::outs).getD k []∧f.al=tl l (M k) outs k∧f.hr.map Prod.snd=ho k∧ff W f.o f.ol∧∀x∈f.hr,ff W x.1 x.2
theorem Hg(W:World):ff W (.slice none 0 0) []:=⟨none,0,rfl,Nat.le_refl _,.inl rfl⟩
theorem mR{w:World}{B:Nat}{e:TypeId}{sz:Nat}{v:Value}{n:Nat}{xs:List Value}(h:w.ownsRow B e sz v n xs):∃A c,v= .slice A n c:=by
 rcases h.2 with⟨rfl,rfl⟩|⟨g,cap,cur,rfl,_⟩
 ·exact⟨none,0,rfl⟩
 ·exact⟨_,_,rfl⟩
theorem Bp{B:Nat}{xs:List (Value×List BA)}{v:Value}{W:World}(h:kE B xs v W):DO W v (xs.map Prod.snd):=by
 rcases h.own.2 with⟨rfl,h0⟩|⟨g,cap,cur,rfl,hg,hh,hc,_⟩
 ·have:xs=[]:=List.length_eq_zero_iff.1 h0;subst this;exact⟨none,0,rfl,Nat.le_refl _,.inl rfl⟩
 ·refine⟨some ⟨g,0,none⟩,cap,by rw[List.length_map],by rw[List.length_map];exact hc,.inr ⟨g,0,rfl,lt_of_block hh,fun i r hi=>?_⟩⟩;rw[List.getElem?_map]at hi;obtain⟨x,hx,rfl⟩:=Option.map_eq_some_iff.1 hi;rw[Nat.zero_add];exact⟨x.1,bg h.own i x.1 (by rw[List.getElem?_map,hx];rfl),cT (h.row x (List.mem_of_getElem? hx)) rfl⟩
theorem tn(l:List Ob)(v:Value)(w:World)(hv:fm w v l)(hm:aZ l=true)(hsm:dZ l)(hc:¬dA l):Calls Tryz.prog 9 #[.agg #[v]] w fun e w'=>∃vf,e= .returned (.tuple #[vf,.int .i64 0])∧∃(nb:BA→List BA)(P:BA→BA)(outs rims:List (List BA))(at':List BA→Nat)(fs:List Fa)(B:Nat),gV l nb P outs rims∧(∀R∈rims,pV l P outs (aS R 0) (at' R)∧at' R≤outs.length)∧tg B fs vf w'∧DQ w' l outs (fun _=>l) (fun k=>rims.filter fun R=>decide (at' R=k)) fs∧Below w.heap.size w w':=by
 obtain⟨i0,hi0,hz0,hz1,hz2⟩:=aM dM;have HI:=aa hi0;have HZ0:=aa hz0;have HZ1:=aa hz1;have HZ2:=aa hz2;obtain⟨j0,hj0,hy0,hy1,hy2⟩:=aM lX;have HJ:=aa hj0;have HY0:=aa hy0;have HY1:=aa hy1;have HY2:=aa hy2;obtain⟨f0,hf0,hx0,hx1,hx2⟩:=aM Dk;have HF:=aa hf0;have HX0:=aa hx0;have HX1:=aa hx1;have HX2:=aa hx2;clear hi0 hz0 hz1 hz2 hj0 hy0 hy1 hy2 hf0 hx0 hx1 hx2;have hmx:Tryz.prog.follows .mixedOrders=true:=K9;obtain⟨wa,hwa⟩:∃z,w.alloc (.cells #[v] 24)=z:=⟨_,rfl⟩
 have hba:Below w.heap.size w wa:=by rw[←hwa];exact(Below.refl _ _).alloc (Nat.le_refl _) _
 have hx:wa.heap[w.heap.size]? =some (.cells #[v] 24 (0,0)):=by rw[←hwa];exact heap_alloc_new _ _
 have c0:wa.cell? ⟨w.heap.size,0,none⟩=some v:=cell_of_row _ _ 0 _ _ _ hx;have HV:=aa (hv.below hba);have HX:=aa hx;have HWA:=aa hwa;have HBA:=aa hba;have HVA:=aa (iP l v wa HV.out.obs HV.out.len HV.out.ok);rw[hm]at HVA;clear hv hx hwa hba;go_enter Tryz.func9,Tryz.ntmps9;go_wp2_with fail;rw[HWA.out];refine HVA.out.mono ?_;rintro _ wb ⟨rfl,hbb⟩;have c1:wb.cell? ⟨w.heap.size,0,none⟩=some v:=cell_of_row _ _ 0 _ _ _ (ai hbb HX.out);have HBB:=aa hbb;have HCK:=aa (tj l v wb (HV.out.below hbb) hm hsm)
 clear HVA hbb c0;go_wp2_with fail;refine HCK.out.mono ?_;rintro _ wc ⟨Q,Aq,cq,rfl,_,hq,hbc⟩;have hQ:Q=[]:=List.eq_nil_iff_forall_not_mem.2 (fun q hqm=>hc ((qz l).1 ((oK l).1 ⟨q,(hq q).1 hqm⟩)));subst hQ;have c2:wc.cell? ⟨w.heap.size,0,none⟩=some v:=cell_of_row _ _ 0 _ _ _ (ai hbc (ai HBB.out HX.out));have HBC:=aa (aq HBB.out hbc);have HPL:=aa (xr l v wc (HV.out.below HBC.out) hm hsm hc);clear HCK hbc hq c1;go_wp2_with fail;refine HPL.out.mono ?_
 rintro _ wd ⟨x,ba,bn,bp,sv,la,ln,lp,nb,P,rfl,hpq,hnb,hlab,hbd⟩;have c3:wd.cell? ⟨w.heap.size,0,none⟩=some v:=cell_of_row _ _ 0 _ _ _ (ai hbd (ai HBC.out HX.out));have HBD:=aa (aq HBC.out hbd);have HPQ:=aa hpq;have HNB:=aa hnb;have HLAB:=aa hlab;have hsl:=lZ hsm;have HCY:=aa (zF l hm hc nb P wd x ba bn bp sv la ln lp hpq hnb (fun s hs=>by have:=(gK hsm hs).1;omega) O9);clear HPL hbd hpq hnb hlab c2;go_wp2_with fail;refine HCY.out.mono ?_;rintro _ we ⟨vo,vr,outs,rims,rfl,hco,hcr,hcl,hpo,hpr,hbe⟩
 have c4:we.cell? ⟨w.heap.size,0,none⟩=some v:=cell_of_row _ _ 0 _ _ _ (ai hbe (ai HBD.out HX.out));have HBE:=aa (aq HBD.out hbe);have HSG:=aa (mo l v we (HV.out.below HBE.out) hm hsm);have HFAC:Hid (gV l nb P (outs.map Prod.snd) (rims.map Prod.snd)):=aa ⟨HNB.out,HLAB.out,hcl,hpo,fun c hcm=>Int.not_lt.2 (hpr c hcm)⟩;obtain⟨f2,f3⟩:=uG hcl (nz hm hc);rw[List.length_append]at f2;have HF3:=aa f3;have HCO:=aa (Bp hco);have HCR:=aa (Bp hcr);have HPQ2:=aa (HPQ.out.below hbe)
 clear HCY hbe hco hcr hcl hpo hpr c3 f3 HNB HLAB HPQ;generalize outs.map Prod.snd=outs at*;generalize rims.map Prod.snd=rims at*;go_wp2_with fail;refine HSG.out.mono ?_;rintro _ wf ⟨sgv,ov,rfl,_,hov,hbf⟩;have HBF:=aa (aq HBE.out hbf);have HOV:=aa hov;have HPQ3:=aa (HPQ2.out.below hbf);have HCO2:=aa (HCO.out.below hbf);have HCR2:=aa (HCR.out.below hbf);clear HSG hbf hov c4 HPQ2 HCO HCR;obtain⟨Ao,co,rfl,_,hao⟩:=HCO2.out;obtain⟨Ar,cr,rfl,_,har⟩:=HCR2.out;have HAO:=aa hao;have HAR:=aa har
 clear hao har;obtain⟨n,hn⟩:∃z,outs.length=z:=⟨_,rfl⟩;have HN:=aa hn;have hn1:n≤480:=O9;rw[hn]at f2 HCO2 ⊢;clear hn;obtain⟨wg,hwg⟩:∃z,wf.alloc (.cells #[.slice none 0 0,.slice none 0 0,.slice none 0 0] 42)=z:=⟨_,rfl⟩;have HWG:=aa hwg;have HBG:Hid (Below wf.heap.size wf wg):=aa (by rw[←hwg];exact(Below.refl _ _).alloc (Nat.le_refl _) _);have HFR:Hid (tg wf.heap.size [⟨.slice none 0 0,[],.slice none 0 0,[],.slice none 0 0,[]⟩] (.slice (some ⟨wf.heap.size,0,none⟩) 1 1) wg):=aa (by
  refine⟨?_,fun f hf=>?_,fun f hf=>?_,fun i j x y hi hj hij=>?_,fun i j x y hi hj hij=>?_⟩
  ·rw[←hwg];exact World.ownsRow_lit wf #[.slice none 0 0,.slice none 0 0,.slice none 0 0] 1 (Nat.le_refl _) (by unfold maxLen;omega) (by simp)
  ·rw[List.mem_singleton.1 hf];exact World.ownsRow_nil _ _ _ _
  ·rw[List.mem_singleton.1 hf];exact World.ownsRow_nil _ _ _ _
  ·have a:=(List.getElem?_eq_some_iff.1 hi).1;have b:=(List.getElem?_eq_some_iff.1 hj).1;simp at a b;omega
  ·have a:=(List.getElem?_eq_some_iff.1 hi).1;have b:=(List.getElem?_eq_some_iff.1 hj).1;simp at a b;omega)
 clear hwg;go_wp2_with fail;rw[HWG.out];go_loopw [9,45] (fun vf i wr=>∃(k:Nat)(uf:Value)(fs:List Fa),k≤n∧i= .int .i64 k∧uf=vf∧Hid (tg wf.heap.size fs uf wr)∧Hid (DQ wf l (outs.take k) (fun _=>[]) (fun _=>[]) fs)∧Hid (Below wf.heap.size wf wr)) (fun _ i _=>n-(intOf i).toNat)
 case atStart=>exact⟨0,_,_,Nat.zero_le _,rfl,rfl,HFR,aa ⟨rfl,fun k f hk=>by
  match k,hk with
  |0,hk=>
   simp at hk;subst hk;exact⟨rfl,rfl,rfl,Hg _,fun x hx=>(by cases hx)⟩
  |k+1,hk=>simp at hk⟩,HBG⟩
 case round=>
  obtain⟨k,uf,fs,hk,rfl,rfl,hfr,hfs,hbw⟩:=hrel;by_cases hlt:k<n
  ·(have hkn:k<outs.length:=by rw[HN.out];exact hlt);obtain⟨g,o,rfl,hg,hp⟩:=HAO.out.resolve_left (by rintro rfl;simp at hkn);obtain⟨iv,e1,hst⟩:=hp k _ (List.getElem?_eq_getElem hkn);have hck:outs[k]? =some outs[k]:=List.getElem?_eq_getElem hkn;replace e1:=(hbw.out.cell (p:=⟨g,_,none⟩) hg).trans e1;generalize outs[k]=c at*;obtain⟨Av,cv,hiv,_⟩:=id hst;subst hiv;have hlen:fs.length=k+1:=by rw[hfs.out.1,List.length_take,HN.out];omega
   have hroom:Below wr.heap.size wr (wr.alloc (.cells #[.slice Av c.length cv,.slice none 0 0,.slice none 0 0] 42)):=(Below.refl _ _).alloc (Nat.le_refl _) _;have HFR2:=aa (hfr.out.below hroom);have HBW:=aa (aq hbw.out hroom);have HFS:Hid (DQ wf l (outs.take (k+1)) (fun _=>[]) (fun _=>[]) (fs++[⟨.slice Av c.length cv,c,.slice none 0 0,[],.slice none 0 0,[]⟩])):=aa (by
    obtain⟨q1,q2⟩:=hfs.out;rw[dC hck];refine⟨by rw[List.length_append,q1,List.length_append];rfl,fun m f hf=>?_⟩;by_cases hm:m<fs.length
    ·rw[List.getElem?_append_left hm]at hf;obtain⟨r1,r2,r3,r4⟩:=q2 m f hf;refine⟨?_,?_,r3,r4⟩
     ·rw[r1,←List.cons_append];rw[List.getD_eq_getElem?_getD,List.getD_eq_getElem?_getD,List.getElem?_append_left (by rw[q1]at hm;simpa using hm)]
     ·rw[r2];cases m<;>rfl
    ·rw[List.getElem?_append_right O9]at hf;have hmm:m=k+1:=by
      have:=(List.getElem?_eq_some_iff.1 hf).1;simp at this;omega
     subst hmm;rw[show k+1-fs.length=0 from by omega]at hf;obtain rfl:=Option.some.inj hf;refine⟨?_,rfl,rfl,hst,fun x hx=>(by cases hx)⟩;rw[←List.cons_append,List.getD_eq_getElem?_getD,List.getElem?_append_right (by rw[List.length_cons,List.length_take];omega)];rw[show k+1-([]::outs.take k).length=0 from by rw[List.length_cons,List.length_take];omega];rfl)
   have k0:(0:Int)≤k:=O9;have k1:(k:Int)<n:=O9;have HLT:=aa hlt;have HLEN:=aa hlen;clear hfs hbw hfr hroom hp hst hck hkn hlt hlen
   go_wp2_with (at_builtin;go_must (refine wpList_append_lies _ rfl _ _ 29 rfl wf.heap.size 42 f0 (.agg #[.slice none 0 0,.slice none 0 0,.slice none 0 0]) 3 72 Tryz.underlying29 HF.out HX0.out HX1.out HX2.out rfl (by decide) uf fs.length (fs.flatMap Fa.cells) rfl HFR2.out.own ⟨wr.heap.size,0,none⟩ 1 1 [.slice Av c.length cv,.slice none 0 0,.slice none 0 0] rfl rfl ?c1 ?c2 (by decide) ?c3 ?c4 ?c5 (wr.heap.size+1) ?c6 ?_))
   case c1=>exact fun jj u hj=>World.news_of_block (cs:=#[.slice Av c.length cv,.slice none 0 0,.slice none 0 0]) (t:=42) (fr:=(0,0)) (heap_alloc_new wr _) jj u hj
   case c2=>intro u hu;simp at hu;rcases hu with rfl|rfl|rfl<;>rfl
   case c3=>have:=HLEN.out;unfold maxLen;omega
   case c4=>have:=HLEN.out;omega
   case c5=>exact HBW.out.size
   case c6=>simp
   intro g9 cap w9 hown9 hgrow9 hat9 _;have HFR3:=aa (tg.push (ol:=c) HFR2.out hgrow9 hown9);have HBW3:Hid (Below wf.heap.size wf w9):=aa (ak HBW.out hgrow9 (fun r e=>(aj HFR2.out.own e).1));clear hown9 hgrow9 hat9 HFR2;go_wp2_with fail;have hlt:=HLT.out;refine⟨⟨k+1,_,_,O9,by go_num,rfl,HFR3,HFS,HBW3⟩,?_⟩;simp[intOf];omega
  ·(have hkn:n=k:=by omega);subst hkn;rw[List.take_of_length_le (by rw[HN.out];exact Nat.le_refl _)]at hfs;obtain⟨g,cf,rfl⟩:=fv hfr.out.own (by rw[hfs.out.1];omega);(have hfl:fs.length=n+1:=by rw[hfs.out.1,HN.out]);have HFL:=aa hfl;rw[hfl]at hfr ⊢;have HFR2:=aa hfr.out;have HFS2:=aa hfs.out;have HBW2:=aa hbw.out;obtain⟨Am,cm,rfl,_,ham⟩:=HV.out.obs;have HAM:=aa ham;have c5:wr.cell? ⟨w.heap.size,0,none⟩=some (.slice Am l.length cm):=cell_of_row _ _ 0 _ _ _ (ai hbw.out (ai HBF.out HX.out))
   clear hfr hfs hbw ham hfl HFR HBG;go_wp2_with fail;go_loopw [58] (fun i wr=>∃(k:Nat)(fs:List Fa),k≤l.length∧i= .int .i64 k∧Hid (tg wf.heap.size fs (.slice (some ⟨g,0,none⟩) (n+1) cf) wr)∧Hid (DQ wf l outs (fun _=>l.take k) (fun _=>[]) fs)∧Hid (Below wf.heap.size wf wr)) (fun i _=>l.length-(intOf i).toNat)
   case atStart=>exact⟨0,_,Nat.zero_le _,rfl,HFR2,aa ⟨HFS2.out.1,fun k f hk=>by
    obtain⟨r1,r2,r3⟩:=HFS2.out.2 k f hk;exact⟨r1,by rw[r2];cases k<;>rfl,r3⟩⟩,HBW2⟩
   case round=>
    obtain⟨k,fs,hk,rfl,hfr,hfs,hbw⟩:=hrel;clear HFR2 HFS2 HBW2 HFL;have hl20:l.length≤20:=hsm.1;by_cases hlt:k<l.length
    ·obtain⟨gm,om,rfl,hgm,hpm⟩:=HAM.out.resolve_left (by rintro rfl;simp at hlt);obtain⟨rv,tv,hoa⟩:=hpm k _ (List.getElem?_eq_getElem hlt);have hom:=List.getElem_mem hlt;have HSTR:=aa hoa.refs;obtain⟨Af,cfr,hrv,_⟩:=id hoa.refs;obtain⟨At,ct,htv,_⟩:=id hoa.tags;subst hrv;subst htv;obtain⟨d0,d1,d2,d3,d4,d5,_,_⟩:=hoa.below hgm (aq HBF.out hbw.out);have HLK:=aa (List.getElem?_eq_getElem hlt);have hok:=hsm.2 _ hom;have HOM:=aa hom;generalize l[k]=t at*;have k0:(0:Int)≤k:=O9;have k1:(k:Int)<l.length:=O9
     have HL:=aa hlt;obtain⟨wo,hwo⟩:∃wo,wr.alloc (.cells #[.string t.id,.int .i64 t.kind,.int .i64 t.x,.int .i64 t.y,.slice Af t.refs.length cfr,.slice At t.tags.length ct] 47)=wo:=⟨_,rfl⟩;obtain⟨bo,hbo⟩:∃z,wr.heap.size=z:=⟨_,rfl⟩;have hbao:Below wr.heap.size wr wo:=by rw[←hwo];exact(Below.refl _ _).alloc (Nat.le_refl _) _
     (have hblk:wo.heap[bo]? =some (.cells #[.string t.id,.int .i64 t.kind,.int .i64 t.x,.int .i64 t.y,.slice Af t.refs.length cfr,.slice At t.tags.length ct] 47 (0,0)):=by rw[←hwo,←hbo];exact heap_alloc_new _ _);obtain⟨e0,e1,e2,e3,e4,e5⟩:=eE hblk;have HBO:=aa hbo;have HWO:=aa hwo;have HBLK:=aa hblk;have HFR3:=aa (hfr.out.below hbao);have HBW3:=aa (aq hbw.out hbao);have HFS3:=hfs
     have HCG:=aa (pM t (.slice Af t.refs.length cfr) (.slice At t.tags.length ct) bo wo hblk ((af l).map (aB l)) ov (HOV.out.below HBW3.out) (by rw[List.length_map];have:=e9 hsm;omega) (fun s hs=>by
      obtain⟨q,_,rfl⟩:=List.mem_map.1 hs;(have:(aB l q).length≤l.length:=by unfold aB jD;rw[List.length_map];exact List.length_filter_le _ _);omega))
     have HKO:Hid (cG l t=(decide (t.kind=3)&&((af l).map (aB l)).any (dr t.id))):=aa rfl;obtain⟨R,hR⟩:∃R,((af l).map (aB l)).any (dr t.id)=R:=⟨_,rfl⟩;rw[hR]at HCG HKO;clear hR hbo hwo hblk hbao hpm hoa hom hlt hfr hfs hbw hok;have skip:Hid (cG l t=false)→Hid (DQ wf l outs (fun _=>l.take (k+1)) (fun _=>[]) fs):=fun hno=>aa ⟨HFS3.out.1,fun m f hf=>by
      obtain⟨r1,r2,r3⟩:=HFS3.out.2 m f hf;refine⟨r1,?_,r3⟩;rw[r2,dC HLK.out,FW hno.out]⟩
     have SKIP:=aa skip;clear skip;by_cases hk3:t.kind=3
     ·cases R with
      |false=>
       have HNO:=aa (show cG l t=false by rw[HKO.out];simp);rw[hk3]at HWO HBLK e1;clear HKO;go_wp2_with fail;rw[HWO.out,HBO.out];refine HCG.out.mono ?_;rintro _ w2 ⟨rfl,rfl⟩;go_wp2_with fail;have hlt:=HL.out;refine⟨⟨k+1,fs,O9,by go_num,HFR3,SKIP.out HNO,HBW3⟩,?_⟩;simp[intOf];omega
      |true=>
       have HTK:=aa (show cG l t=true by rw[HKO.out,hk3];rfl);rw[hk3]at HWO HBLK e1;clear SKIP HKO;go_wp2_with fail;rw[HWO.out,HBO.out];refine HCG.out.mono ?_;rintro _ w2 ⟨rfl,rfl⟩;clear HCG;go_wp2_with fail;have HAR:Hid (nD l t.refs):=aa (mP hm HOM.out HTK.out)
       go_loopw [73] (fun i wq=>∃(j:Nat)(fs:List Fa),j≤n∧i= .int .i64 j∧Hid (tg wf.heap.size fs (.slice (some ⟨g,0,none⟩) (n+1) cf) wq)∧Hid (DQ wf l outs (fun m=>if m≤j then l.take (k+1)else l.take k) (fun _=>[]) fs)∧Hid (Below wf.heap.size wf wq)∧Hid (wq.heap[bo]? =some (.cells #[.string t.id,.int .i64 3,.int .i64 t.x,.int .i64 t.y,.slice Af t.refs.length cfr,.slice At t.tags.length ct] 47 (0,0)))) (fun i _=>n-(intOf i).toNat)
       case atStart=>exact⟨0,fs,Nat.zero_le _,rfl,HFR3,aa ⟨HFS3.out.1,fun m f hf=>by
        obtain⟨r1,r2,r3⟩:=HFS3.out.2 m f hf;refine⟨r1,?_,r3⟩;rw[r2]
        match m with
        |0=>rfl
        |m+1=>
         show _=tl l (if m+1≤0 then l.take (k+1)else l.take k) outs (m+1);rw[if_neg O9]⟩,HBW3,HBLK⟩
       case round=>
        clear HFR3 HFS3 HBLK HBW3 fs e0 e1 e2 e3 e4 e5;obtain⟨j,fs,hj,rfl,hfr,hfs,hbw,hblk⟩:=hrel;by_cases hjn:j<n
        ·(have hjo:j<outs.length:=by rw[HN.out];exact hjn);obtain⟨go,oo,rfl,hgo,hpo⟩:=HAO.out.resolve_left (by rintro rfl;simp at hjo);obtain⟨iv,x1,hst⟩:=hpo j _ (List.getElem?_eq_getElem hjo);have hcj:outs[j]? =some outs[j]:=List.getElem?_eq_getElem hjo;replace x1:=(hbw.out.cell (p:=⟨go,_,none⟩) hgo).trans x1;have hcy:=HFAC.out.cyc.cyc outs[j] (List.mem_append_left _ (List.getElem_mem hjo));generalize outs[j]=c at*;have hc2:=Hf hcy hm;have hpk:=(du hcy).2;have hst2:=hst.below hbw.out
         obtain⟨Ac,cc,rfl,hcc,hAc⟩:=id hst2;obtain⟨gc,oc,rfl,hgc,hpc⟩:=hAc.resolve_left hcy.ne;have x2:wr.cell? ⟨gc,oc,none⟩=some (.string (aS c 0)):=hpc 0 (aS c 0) (by rw[List.getElem?_eq_getElem O9,iK O9]);have x3:wr.cell? ⟨gc,oc+1,none⟩=some (.string (aS c 1)):=hpc 1 (aS c 1) (by rw[List.getElem?_eq_getElem O9,iK O9]);obtain⟨s1,hs1⟩:∃z,aS c 0=z:=⟨_,rfl⟩;obtain⟨s2,hs2⟩:∃z,aS c 1=z:=⟨_,rfl⟩;have HS1:=aa hs1;have HS2:=aa hs2;rw[hs1,hs2]at hpk;rw[hs1]at x2;rw[hs2]at x3
         obtain⟨d0,d1,d2,d3,d4,d5⟩:=eE hblk.out;have hbq:Below wr.heap.size wr wr.drew:=aA _;have HCV:=aa (zH l hm nb P wr.drew x ba bn bp sv la ln lp ((HPQ3.out.below hbw.out).below hbq) t.refs (.slice Af t.refs.length cfr) (((HSTR.out.below HBF.out).below hbw.out).below hbq) (fun e=>by have:=HAR.out.three;rw[e]at this;simp at this) (by have:=(hsm.2 _ HOM.out).2.1;omega) (fun s hs=>by
          obtain⟨z,hz,rfl⟩:=rj HAR.out hs;exact⟨Nat.le_trans (gK hsm hz).1 (by unfold maxLen;omega),z,hz,rfl⟩) s1 s2 hpk ⟨Nat.le_trans (gK hsm hpk).1 (by unfold maxLen;omega),Nat.le_trans (gK hsm hpk).2 (by unfold maxLen;omega)⟩)
         obtain⟨R,hR⟩:∃z,fk l t.refs (s1,s2)=z:=⟨_,rfl⟩;have HR:=aa hR;rw[hR]at HCV;have k2:(0:Int)≤j:=O9;have k3:(j:Int)<n:=O9;have HFR:=aa hfr.out;have HFS:=aa hfs.out;have HBW:=aa hbw.out;have HBLK:=aa hblk.out;have HJ1:=aa hjn;have HCJ:=aa hcj;have hcc2:(2:Int)≤c.length:=O9;clear hfr hfs hbw hblk hjn hjo hpo hst hst2 hcj hcy hpk hAc hpc hgc hR hs1 hs2 hbq hcc;go_upto_region 22 with(fail);have z2:wr.drew.cell? ⟨gc,oc,none⟩=some (.string s1):=x2
         have z3:wr.drew.cell? ⟨gc,oc+1,none⟩=some (.string s2):=x3;have z4:wr.drew.cell? ⟨bo,4,none⟩=some (.slice Af t.refs.length cfr):=d4;clear x1 x2 x3 d0 d1 d2 d3 d4 d5;have n0:0<c.length:=O9;have n1:(1:Int)<c.length:=O9;go_still_tail 10,K9;change wpList _ _ _ _ _ wr.drew;clear z2 z3 z4;go_wp2_with fail;refine HCV.out.mono ?_;rintro _ w7 ⟨rfl,hb7⟩;have hb8:Below wr.heap.size wr w7:=aq (aA _) hb7;have HFR7:=aa (HFR.out.below hb8);have HBW7:=aa (aq HBW.out hb8);have HBLK7:=aa (ai hb8 HBLK.out)
         clear hb7 hb8 HCV HFR HBW HBLK;have hfj:∃f,fs[j+1]? =some f:=⟨_,List.getElem?_eq_getElem (by rw[HFS.out.1,HN.out];have:=HJ1.out;omega)⟩;obtain⟨f,hf⟩:=hfj;have HFJ:=aa hf;have HARE:Hid (tl l (l.take (k+1)) outs (j+1)=tl l (l.take k) outs (j+1)++(if R=true then [t.id]else [])):=aa (by
          show mQ _ _ _=mQ _ _ _++_;(have e:outs.getD j []=c:=by rw[List.getD_eq_getElem?_getD,HCJ.out];rfl);rw[dC HLK.out,tm,e,HS1.out,HS2.out,HTK.out,HR.out,Bool.true_and])
         clear hf;cases R with
         |false=>
          have HFS9:Hid (DQ wf l outs (fun m=>if m≤j+1 then l.take (k+1)else l.take k) (fun _=>[]) fs):=aa ⟨HFS.out.1,fun m f hf=>by
           obtain⟨r1,r2,r3⟩:=HFS.out.2 m f hf;refine⟨r1,?_,r3⟩;rw[r2];by_cases e1:m≤j
           ·show tl l (if m≤j then _ else _) _ _=tl l (if m≤j+1 then _ else _) _ _;rw[if_pos e1,if_pos O9]
           ·show tl l (if m≤j then _ else _) _ _=tl l (if m≤j+1 then _ else _) _ _;by_cases e2:m=j+1
            ·subst e2;rw[if_neg O9,if_pos O9,HARE.out];simp
            ·rw[if_neg e1,if_neg O9]⟩
          clear HFS HARE;go_wp2_with fail;have hj:=HJ1.out;refine⟨⟨j+1,fs,O9,by go_num,HFR7,HFS9,HBW7,HBLK7⟩,?_⟩;simp[intOf];omega
         |true=>
          have ho7:=HFR7.out.own;rw[show fs.length=n+1 from by rw[HFS.out.1,HN.out]]at ho7;(have hfl:fs.length=n+1:=by rw[HFS.out.1,HN.out]);have HFLN:=aa hfl;have hmem:=List.mem_of_getElem? HFJ.out;have hra:=HFR7.out.are f hmem;have hre:=(HFS.out.2 (j+1) f HFJ.out).2.1;obtain⟨fo,fol,fh,fhr,fa,fal⟩:=f;simp only at hra hre;have hfal:fal.length≤20:=by
           rw[hre];show(mQ l _ _).length≤20;refine Nat.le_trans (xz _ _ _) ?_;show(if j+1≤j then l.take (k+1)else l.take k).length≤20;split<;>rw[List.length_take]<;>omega
          obtain⟨Aa,ca,rfl⟩:=mR hra;have hy1:w7.cell? ⟨g,(j+1)*3+2,none⟩=some (.slice Aa fal.length ca):=bg ho7 _ _ (rh fs (j+1) _ HFJ.out).2.2;have hfz:w7.frozen? ⟨g,(j+1)*3+2,none⟩=false:=ez ho7 _;have HRE:=aa hre;have HFSN:Hid (∀a',DQ wf l outs (fun m=>if m≤j+1 then l.take (k+1)else l.take k) (fun _=>[]) (fs.set (j+1) ⟨fo,fol,fh,fhr,a',fal++[t.id]⟩)):=aa (fun a'=>⟨by rw[List.length_set];exact HFS.out.1,fun m f hf=>by
           by_cases e2:m=j+1
           ·subst e2;rw[List.getElem?_set_self (List.getElem?_eq_some_iff.1 HFJ.out).1]at hf;obtain rfl:=Option.some.inj hf;obtain⟨r1,r2,r3⟩:=HFS.out.2 (j+1) _ HFJ.out;refine⟨r1,?_,r3⟩;show fal++[t.id]=tl l (if j+1≤j+1 then _ else _) outs (j+1);rw[if_pos (Nat.le_refl _),HARE.out,HRE.out];show tl l (if j+1≤j then _ else _) outs (j+1)++_=_;rw[if_neg O9];rfl
           ·rw[List.getElem?_set_ne (fun e=>e2 e.symm)]at hf;obtain⟨r1,r2,r3⟩:=HFS.out.2 m f hf;refine⟨r1,?_,r3⟩;rw[r2];show tl l (if m≤j then _ else _) _ _=tl l (if m≤j+1 then _ else _) _ _;by_cases e1:m≤j
            ·rw[if_pos e1,if_pos O9]
            ·rw[if_neg e1,if_neg O9]⟩)
          clear hmem hre hfl;go_upto_region 23 with(fail);obtain⟨wx,hwx⟩:∃z,w7.drew=z:=⟨_,rfl⟩;(have hbx:Below w7.heap.size w7 wx:=by rw[←hwx];exact aA _);have HM0:Hid (wx.cell? ⟨g,(j+1)*3+2,none⟩=some (.slice Aa fal.length ca)∧wx.cell? ⟨bo,0,none⟩=some (.string t.id)):=aa (by rw[←hwx];exact⟨hy1,(eE HBLK7.out).1⟩);have HFRX:=aa (HFR7.out.below hbx);have HRAX:=aa (ao hra hbx);have HFZX:Hid (wx.frozen? ⟨g,(j+1)*3+2,none⟩=false):=aa (by rw[←hwx];exact hfz);have HBLKX:=aa (ai hbx HBLK7.out)
          have HBWX:=aa (aq HBW7.out hbx);have HGX:Hid (g<wx.heap.size):=aa (by have:=(aj ho7 (b:=g) rfl).2;have:=hbx.size;omega);refine aU (fun W=>W.cell? ⟨g,(j+1)*3+2,none⟩=some (.slice Aa fal.length ca)∧W.cell? ⟨bo,0,none⟩=some (.string t.id)) 11 hmx ?_;rw[hwx];have hbe:Below wx.heap.size wx (wx.alloc (.cells #[.string t.id] 9)):=(Below.refl _ _).alloc (Nat.le_refl _) _
          have HMB:Hid ((wx.alloc (.cells #[.string t.id] 9)).cell? ⟨g,(j+1)*3+2,none⟩=some (.slice Aa fal.length ca)∧(wx.alloc (.cells #[.string t.id] 9)).cell? ⟨bo,0,none⟩=some (.string t.id)):=aa ⟨(hbe.cell (p:=⟨g,_,none⟩) HGX.out).trans HM0.out.1,(eE (ai hbe HBLKX.out)).1⟩;have HFRB:=aa (HFRX.out.below hbe);have HRAB:=aa (ao HRAX.out hbe)
          have HNW:Hid (∀(j:Nat)(u:Value),[(Value.string t.id)][j]? =some u→(wx.alloc (.cells #[.string t.id] 9)).cell? ((⟨wx.heap.size,0,none⟩:Addr).add j)=some u):=aa (fun j u hj=>World.news_of_block (cs:=#[.string t.id]) (t:=9) (fr:=(0,0)) (heap_alloc_new wx _) j u hj);have HBWB:=aa (aq HBWX.out hbe);have HBLKB:=aa (ai hbe HBLKX.out);have HNE:Hid (some g≠(Value.slice Aa fal.length ca).ownBlock):=aa (fun e=>bR HRAX.out (ao ho7 hbx) (by decide) g e.symm rfl)
          have HFZB:Hid ((wx.alloc (.cells #[.string t.id] 9)).frozen? ⟨g,(j+1)*3+2,none⟩=false):=aa (ez (ao (ao ho7 hbx) hbe) _);clear hbe hbx hwx hy1 hfz hra ho7 HRAX HFRX HFR7 HBW7 HBLK7;simp only[List.size_toArray,List.length_cons,List.length_nil,Nat.reduceAdd];refine wk 0 (.pointer (some ⟨g,(j+1)*3,none⟩)) rfl (fun w hm=>rfl) ?_;refine wkg 1 (.pointer (some ⟨g,(j+1)*3,none⟩)) rfl ?_;refine wkg 2 (.pointer (some ⟨g,(j+1)*3,none⟩)) rfl ?_;refine wkg 3 (.pointer (some ⟨g,(j+1)*3+2,none⟩)) rfl ?_
          refine wk 4 (.slice Aa fal.length ca) rfl (fun w hm=>by obtain⟨m0,m1⟩:=hm;clear m1;go_simp) ?_;refine wkg 5 (.pointer (some ⟨bo,0,none⟩)) rfl ?_;refine wk 6 (.string t.id) rfl (fun w hm=>by obtain⟨m0,m1⟩:=hm;clear m0;go_simp) ?_;refine wr1 7 HM0.out rfl (fun K' hK=>?_);go_simp;refine hK _ _ ?_;refine aG (rs:=[8]) K9 (by simp) (HMB.out) ?_;refine wnM rfl (fun K' hK=>?_)
          refine step_append_lies _ rfl (.tmp 97) (.tmp 100) 39 rfl wf.heap.size 9 i0 (.string ⟨#[]⟩) 1 16 Tryz.underlying39 HI.out HZ0.out HZ1.out HZ2.out rfl (by decide) (.slice Aa fal.length ca) fal.length (fal.map .string) rfl HRAB.out ⟨wx.heap.size,0,none⟩ 1 1 [.string t.id] rfl rfl HNW.out (fun u hu=>by simp at hu;rw[hu];rfl) (by decide) (by unfold maxLen;omega) O9 HBWB.out.size (wx.heap.size+1) (by simp) ?_;intro g9 cap9 w10 hown9 hgrow9 hat9 hlt9
          have HFR9:=aa (HFRB.out.area HFLN.out.symm HFJ.out hown9 hgrow9 (fun b hb=>hat9.elim (fun e=>.inl (by rw[←hb];exact e)) (fun e=>.inr (by have:=Option.some.inj (show some g9=some b from hb);simp;omega))));have HC9:Hid (w10.cell? ⟨g,(j+1)*3+2,none⟩=some (.slice Aa fal.length ca)∧w10.cell? ⟨bo,0,none⟩=some (.string t.id)):=aa ⟨(hgrow9.cell_far ⟨g,_,none⟩ (by have:=HGX.out;simp;omega) HNE.out).trans HMB.out.1,(eE (fQ hgrow9 HBLKB.out (fun e=>by obtain⟨_,cur,hc⟩:=bK HRAB.out e;rw[HBLKB.out]at hc;cases hc))).1⟩
          have hcz:=HC9.out.1;have hfz:w10.frozen? ⟨g,(j+1)*3+2,none⟩=false:=(hgrow9.frozen_far ⟨g,_,none⟩ (by have:=HGX.out;simp;omega) HNE.out).trans HFZB.out;have HBW9:Hid (Below wf.heap.size wf w10):=aa (ak HBWB.out hgrow9 (fun r e=>(aj HRAB.out e).1))
          have HBLK9:Hid (w10.heap[bo]? =some (.cells #[.string t.id,.int .i64 3,.int .i64 t.x,.int .i64 t.y,.slice Af t.refs.length cfr,.slice At t.tags.length ct] 47 (0,0))):=aa (fQ hgrow9 HBLKB.out (fun e=>by obtain⟨_,cur,hc⟩:=bK HRAB.out e;rw[HBLKB.out]at hc;cases hc));clear hown9 hgrow9 hat9 hlt9;refine hK _ _ ?_;refine wr1 9 HC9.out rfl (fun K' hK=>?_);go_simp;refine hK _ _ ?_;refine wkg 10 (.pointer (some ⟨g,(j+1)*3+2,none⟩)) rfl ?_;refine wr1 11 HC9.out rfl (fun K' hK=>?_);go_simp;refine hK _ _ ?_
          refine wdM ?_;have HBWZ:Hid (Below wf.heap.size wf (w10.setCell ⟨g,(j+1)*3+2,none⟩ (.slice (some ⟨g9,0,none⟩) (fal.length+1) cap9))):=aa (HBW9.out.setCell (aj HFRB.out.own (b:=g) rfl).1 _);have HBLKZ:Hid ((w10.setCell ⟨g,(j+1)*3+2,none⟩ (.slice (some ⟨g9,0,none⟩) (fal.length+1) cap9)).heap[bo]? =some (.cells #[.string t.id,.int .i64 3,.int .i64 t.x,.int .i64 t.y,.slice Af t.refs.length cfr,.slice At t.tags.length ct] 47 (0,0))):=aa (by
           rw[Below.heap_setCell _ _ _ _ (fun e=>eA HFRB.out.own HBLKB.out (by decide) (by first|exact congrArg some e|exact congrArg some e.symm))];exact HBLK9.out)
          clear hcz hfz HFRB HRAB HNW HBWB HBLKB HFZB HM0 HMB HC9 HBW9 HBLK9;generalize w10.setCell _ _=wz at*;go_wp2_with fail;have hj:=HJ1.out;refine⟨⟨j+1,_,O9,by go_num,HFR9,aa (HFSN.out _),HBWZ,HBLKZ⟩,?_⟩;simp[intOf];omega
        ·(obtain rfl:j=n:=by omega);have HFS9:Hid (DQ wf l outs (fun _=>l.take (k+1)) (fun _=>[]) fs):=aa ⟨hfs.out.1,fun m f hf=>by
          obtain⟨r1,r2,r3⟩:=hfs.out.2 m f hf;refine⟨r1,?_,r3⟩;rw[r2];show tl l (if m≤j then _ else _) _ _=_;have:=(List.getElem?_eq_some_iff.1 hf).1;rw[hfs.out.1,HN.out]at this;rw[if_pos O9]⟩
         have HFR9:=aa hfr.out;have HBW9:=aa hbw.out;clear hfs hfr hbw hblk;go_wp2_with fail;have hlt:=HL.out;refine⟨⟨k+1,fs,O9,by go_num,HFR9,HFS9,HBW9⟩,?_⟩;simp[intOf];omega
     ·have HNO:=aa (show cG l t=false by rw[HKO.out,decide_eq_false hk3];rfl);(have q1:(t.kind != 3)=true:=by rw[bne_iff_ne];exact hk3);clear HKO;go_wp2_with fail;rw[HWO.out];have hlt:=HL.out;refine⟨⟨k+1,fs,O9,by go_num,HFR3,SKIP.out HNO,HBW3⟩,?_⟩;simp[intOf];omega
    ·(obtain rfl:k=l.length:=by omega);rw[List.take_length]at hfs;have HFRA:=aa hfr.out;have HFSA:=aa hfs.out;have HBWA:=aa hbw.out;have HRND:Hid (rims.Nodup):=aa (List.nodup_append.1 (HFAC.out.nd hm hc)).2.1;have hrl:rims.length≤480:=O9;have HST:Hid ((an l).length≤480):=aa hsl;clear hfr hfs hbw hlt;go_wp2_with fail
     go_loopw [108] (fun i wr=>∃(m:Nat)(fs:List Fa)(at':List BA→Nat),m≤rims.length∧i= .int .i64 m∧Hid (tg wf.heap.size fs (.slice (some ⟨g,0,none⟩) (n+1) cf) wr)∧Hid (DQ wf l outs (fun _=>l) (fun q=>(rims.take m).filter fun R=>decide (at' R=q)) fs)∧Hid (∀R∈rims.take m,pV l P outs (aS R 0) (at' R)∧at' R≤outs.length)∧Hid (Below wf.heap.size wf wr)) (fun i _=>rims.length-(intOf i).toNat)
     case atStart=>exact⟨0,_,fun _=>0,Nat.zero_le _,rfl,HFRA,HFSA,aa (fun R hR=>by simp at hR),HBWA⟩
     case round=>
      clear HFRA HFSA HBWA;obtain⟨m,fs,at',hk,rfl,hfr,hfs,hat,hbw⟩:=hrel;by_cases hlt:m<rims.length
      ·obtain⟨gr,o,rfl,hgr,hp⟩:=HAR.out.resolve_left (by rintro rfl;simp at hlt);obtain⟨iv,x1,hst⟩:=hp m _ (List.getElem?_eq_getElem hlt);have hcm:rims[m]? =some rims[m]:=List.getElem?_eq_getElem hlt;replace x1:=(hbw.out.cell (p:=⟨gr,_,none⟩) hgr).trans x1;have hcy:=HFAC.out.cyc.cyc rims[m] (List.mem_append_right _ (List.getElem_mem hlt));generalize rims[m]=c at*;have hpk:=(du hcy).2;have hst2:=hst.below hbw.out;obtain⟨Ac,cc,rfl,hcc,hAc⟩:=id hst2;obtain⟨gc,oc,rfl,hgc,hpc⟩:=hAc.resolve_left hcy.ne
       have h0:0<c.length:=List.length_pos_iff.2 hcy.ne;have x2:wr.cell? ⟨gc,oc,none⟩=some (.string (aS c 0)):=hpc 0 (aS c 0) (by rw[List.getElem?_eq_getElem h0,iK h0]);have HSTC:=aa hst;have HARD:=aa (zG l hm nb P wr x ba bn bp sv la ln lp (HPQ3.out.below hbw.out) outs (.slice Ao n co) (HCO2.out.below hbw.out) (by rw[HN.out];omega) (fun d hd=>by
        have hcd:=HFAC.out.cyc.cyc d (List.mem_append_left _ hd);refine⟨hcd.ne,Nat.le_trans (HF3.out d (List.mem_append_left _ hd)) (by have:=HST.out;omega),fun t ht=>?_⟩;obtain⟨z,hz,rfl⟩:=Bo hcd ht;exact⟨Nat.le_trans (gK hsm hz).1 (by unfold maxLen;omega),z,hz,rfl⟩) (aS c 0,aS c 1) hpk (Nat.le_trans (gK hsm hpk).1 (by unfold maxLen;omega)))
       simp only at HARD;have k0:(0:Int)≤m:=O9;have k1:(m:Int)<rims.length:=O9;have HFR:=aa hfr.out;have HFS:=aa hfs.out;have HAT:=aa hat.out;have HBW:=aa hbw.out;have HLT:=aa hlt;have HCM:=aa hcm;have h0i:(0:Int)<c.length:=O9;obtain⟨s1,hs1⟩:∃z,aS c 0=z:=⟨_,rfl⟩;have HS1:=aa hs1;rw[hs1]at x2 HARD;clear hfr hfs hbw hat hlt hp hst hst2 hcm hcy hpk hAc hpc hcc hs1;go_wp2_with fail;refine HARD.out.mono ?_;rintro _ w7 ⟨q,rfl,hq,hatq,hb7⟩;have hqn:q≤n:=by rw[HN.out]at hq;exact hq
       have HFR7:=aa (HFR.out.below hb7);have HBW7:=aa (aq HBW.out hb7);(have hfl:fs.length=n+1:=by rw[HFS.out.1,HN.out]);obtain⟨f,hf⟩:∃f,fs[q]? =some f:=⟨_,List.getElem?_eq_getElem O9⟩;have HFJ:=aa hf;have ho7:=HFR7.out.own;rw[hfl]at ho7;have HFLN:=aa hfl;have hmem:=List.mem_of_getElem? hf;have hra:=HFR7.out.hol f hmem;have hre:=(HFS.out.2 q f hf).2.2.1;obtain⟨fo,fol,fh,fhr,fa,fal⟩:=f;simp only at hra hre;have hfal:fhr.length≤480:=by
        have e:=congrArg List.length hre;rw[List.length_map]at e;rw[e];refine Nat.le_trans (List.length_filter_le _ _) ?_;rw[List.length_take];omega
       obtain⟨Ah,ch,rfl⟩:=mR hra;have y1:w7.cell? ⟨g,q*3+1,none⟩=some (.slice Ah fhr.length ch):=bg ho7 _ _ (rh fs q _ hf).2.1;have HFZ:Hid (w7.frozen? ⟨g,q*3+1,none⟩=false):=aa (ez ho7 _);have HYC:=aa y1;have HSET:Hid (∀h',DQ wf l outs (fun _=>l) (fun u=>(rims.take (m+1)).filter fun R=>decide ((if R=c then q else at' R)=u)) (fs.set q ⟨fo,fol,h',fhr++[(.slice (some ⟨gc,oc,none⟩) c.length cc,c)],fa,fal⟩)):=aa (fun h'=>⟨by rw[List.length_set];exact HFS.out.1,fun u f hf=>by
        by_cases e2:u=q
        ·subst e2;rw[List.getElem?_set_self (List.getElem?_eq_some_iff.1 HFJ.out).1]at hf;obtain rfl:=Option.some.inj hf;obtain⟨r1,r2,r3,r4,r5⟩:=HFS.out.2 u _ HFJ.out;refine⟨r1,r2,?_,r4,fun x hx=>?_⟩
         ·show _=(rims.take (m+1)).filter (fun R=>decide ((if R=c then u else at' R)=u));have r3':fhr.map Prod.snd=(rims.take m).filter (fun R=>decide (at' R=u)):=r3;rw[xA HRND.out HCM.out at' u u,if_pos rfl,←r3'];exact List.map_append
         ·rcases List.mem_append.1 hx with hx|hx
          ·exact r5 x hx
          ·rw[List.mem_singleton.1 hx];exact HSTC.out
        ·rw[List.getElem?_set_ne (fun e=>e2 e.symm)]at hf;obtain⟨r1,r2,r3,r4,r5⟩:=HFS.out.2 u f hf;refine⟨r1,r2,?_,r4,r5⟩;show _=(rims.take (m+1)).filter (fun R=>decide ((if R=c then q else at' R)=u));rw[xA HRND.out HCM.out at' q u,if_neg e2,List.append_nil];exact r3⟩)
       have HATN:Hid (∀R∈rims.take (m+1),pV l P outs (aS R 0) (if R=c then q else at' R)∧(if R=c then q else at' R)≤outs.length):=aa (fun R hR=>by
        by_cases e:R=c
        ·subst e;rw[if_pos rfl,HS1.out];exact⟨hatq,hq⟩
        ·rw[if_neg e];rw[dC HCM.out]at hR;rcases List.mem_append.1 hR with hR|hR
         ·exact HAT.out R hR
         ·exact absurd (List.mem_singleton.1 hR) e)
       have k2:(0:Int)≤q:=O9;have k3:(q:Int)<(n:Int)+1:=O9;have k4:(q:Int)<((n+1:Nat):Int):=O9;have HRA:=aa hra;have HGL:Hid (g<w7.heap.size):=aa (aj ho7 (b:=g) rfl).2;have HNE:Hid (some g≠(Value.slice Ah fhr.length ch).ownBlock):=aa (fun e=>bR hra ho7 (by decide) g e.symm rfl);have HBA7:Hid (Below w7.heap.size w7 (w7.alloc (.cells #[.slice (some ⟨gc,oc,none⟩) c.length cc] 39))):=aa ((Below.refl _ _).alloc (Nat.le_refl _) _);have HGB:Hid (wf.heap.size≤g):=aa (aj ho7 (b:=g) rfl).1
       have HRB:=aa (ao hra HBA7.out);have HFRB:=aa (HFR7.out.below HBA7.out);have HBWB:=aa (aq HBW7.out HBA7.out);clear hq hatq hb7 HFR HBW HARD hfl hf ho7 hmem hra hre HFR7 HFS HAT HBW7
       go_wp2_with (at_builtin;go_must (refine wpList_append_lies _ rfl _ _ 40 rfl wf.heap.size 39 j0 (.slice none 0 0) 1 24 Tryz.underlying40 HJ.out HY0.out HY1.out HY2.out rfl (by decide) (.slice Ah fhr.length ch) fhr.length (fhr.map Prod.fst) rfl HRB.out ⟨w7.heap.size,0,none⟩ 1 1 [.slice (some ⟨gc,oc,none⟩) c.length cc] rfl rfl ?c1 ?c2 (by decide) ?c3 ?c4 ?c5 (w7.heap.size+1) ?c6 ?_))
       case c1=>exact fun jj u hj=>World.news_of_block (cs:=#[.slice (some ⟨gc,oc,none⟩) c.length cc]) (t:=39) (fr:=(0,0)) (heap_alloc_new w7 _) jj u hj
       case c2=>first|rfl|(intro u hu;simp at hu;rw[hu];rfl)
       case c3=>unfold maxLen;omega
       case c4=>omega
       case c5=>exact HBWB.out.size
       case c6=>simp
       intro g9 cap9 w10 hown9 hgrow9 hat9 _;have HFR9:=aa (HFRB.out.hole (s:=(.slice (some ⟨gc,oc,none⟩) c.length cc,c)) HFLN.out.symm HFJ.out hown9 hgrow9 (fun b hb=>hat9.elim (fun e=>.inl (by rw[←hb];exact e)) (fun e=>.inr (by have:=Option.some.inj (show some g9=some b from hb);simp;omega))));have hcz:w10.cell? ⟨g,q*3+1,none⟩=some (.slice Ah fhr.length ch):=(hgrow9.cell_far ⟨g,_,none⟩ (by have:=HGL.out;simp;omega) HNE.out).trans ((HBA7.out.cell (p:=⟨g,_,none⟩) HGL.out).trans HYC.out)
       have hfz:w10.frozen? ⟨g,q*3+1,none⟩=false:=(hgrow9.frozen_far ⟨g,_,none⟩ (by have:=HGL.out;simp;omega) HNE.out).trans ((World.frozen?_alloc_old w7 _ ⟨g,_,none⟩ (by show g≠w7.heap.size;have:=HGL.out;omega)).trans HFZ.out);have HBWZ:Hid (Below wf.heap.size wf (w10.setCell ⟨g,q*3+1,none⟩ (.slice (some ⟨g9,0,none⟩) (fhr.length+1) cap9))):=aa ((ak HBWB.out hgrow9 (fun r e=>(aj HRB.out e).1)).setCell HGB.out _);clear hown9 hgrow9 hat9 HFRB HRB HBWB HFZ HYC HNE HBA7 y1;go_wp2_with fail;have hlt:=HLT.out
       refine⟨⟨m+1,_,_,O9,by go_num,HFR9,aa (HSET.out _),HATN,HBWZ⟩,?_⟩;simp[intOf];omega
      ·(obtain rfl:m=rims.length:=by omega);rw[List.take_length]at hfs hat;have HFRZ:=aa hfr.out;have HFSZ:=aa hfs.out;have HATZ:=aa hat.out;have HBWZ:=aa hbw.out;clear hfr hfs hat hbw hlt;go_wp2_with fail;go_ret2;refine⟨_,rfl,nb,P,outs,rims,at',fs,wf.heap.size,HFAC.out,HATZ.out,HFRZ.out,⟨HFSZ.out.1,fun k f hf=>?_⟩,aq (aq HBA.out HBF.out) HBWZ.out⟩;obtain⟨r1,r2,r3,r4,r5⟩:=HFSZ.out.2 k f hf;exact⟨r1,r2,r3,r4.below HBWZ.out,fun x hx=>(r5 x hx).below HBWZ.out⟩
