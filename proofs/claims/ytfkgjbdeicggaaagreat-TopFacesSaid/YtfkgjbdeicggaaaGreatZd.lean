/-
  Room for texts in a new row; one walk after another, walked.
-/
import Derived.Test.YtfkgjbdeicggaaaGreatZc
set_option maxHeartbeats 8000000
set_option maxRecDepth 100000
namespace Go.Proofs.YtfkgjbdeicggaaaGreat
open Go.RowKit Go.Proofs.Px Go.Proofs.Pn Go.Proofs.Pm Go.Proofs.Pg Go.Proofs.Pto Go.Proofs.Pf
attribute [local go_sem] Oper.semAt_some
theorem FA(n:Nat)(h0:0<n)(hn:n≤100000)(w:World):Calls Tryz.prog 212 #[.slice none 0 0,.int .i64 n] w fun e w'=>∃g c,e= .returned (.slice (some ⟨g,0,none⟩) 0 c)∧w'.ownsRow w.heap.size 9 1 (.slice (some ⟨g,0,none⟩) 0 c) 0 []∧Below w.heap.size w w':=by
 obtain⟨i0,hi0,hz0,hz1,hz2⟩:=aM dM;refine(Any8.slices_Grow_grow Tryz.growStrs i0 (.string ⟨#[]⟩) hi0 hz0 O9 none 0 0 n [] w (Nat.le_refl _) O9 (by rw[hz2];omega) O9 (by simp) (fun _=>rfl) (fun a h=>by cases h)).mono ?_;rintro e w' ⟨rfl,rfl⟩;refine⟨_,_,rfl,⟨rfl,.inr ⟨w.heap.size,_,_,rfl,Nat.le_refl _,heap_alloc_new w.drew _,Nat.zero_le _,?_,?_,?_⟩⟩,(aA w).alloc (Nat.le_refl _) _⟩
 ·exact grownCap_le_maxLen w (0+n) 0 _ (by unfold maxLen;omega)
 ·have:=grownCap_ge w (0+n) 0 (Tryz.growStrs_ren.t 25);generalize grownCap w (0+n) 0 (Tryz.growStrs_ren.t 25)=G at*;have hz:∀k,(Builtin.zeroCells (Value.string ⟨#[]⟩).cells k).size=k:=fun k=>by
   unfold Builtin.zeroCells;rw[Array.size_map,Array.size_range];exact Nat.mul_one k
  rw[Array.size_append,Array.size_append,hz,hz,Array.size_empty];omega
 ·simp
theorem sY{W:World}{g o:Nat}{L:List BA}(h:nH W g o L):∀j u,(L.map Value.string)[j]? =some u→W.cell? (Addr.add ⟨g,o,none⟩ j)=some u:=fun j u hj=>by
 rw[List.getElem?_map]at hj;obtain⟨s,hs,rfl⟩:=Option.map_eq_some_iff.1 hj;have e:(⟨g,o,none⟩:Addr).add j=⟨g,o+j,none⟩:=by simp only[Addr.add];split<;>simp_all
 rw[e];exact h j s hs
theorem zC(g c g1 o1 c1 g2 o2 c2:Nat)(L M:List BA)(w:World)(hg:w.heap[g]? =some (.cells #[.slice (some ⟨g1,o1,none⟩) L.length c1,.slice (some ⟨g2,o2,none⟩) M.length c2] 39 (0,0)))(hgl:g<w.heap.size)(h1l:g1<w.heap.size)(h2l:g2<w.heap.size)(h1:nH w g1 o1 L)(h2:nH w g2 o2 M)(hl:L.length≤1000)(hm:M.length≤1000)(h0:0<L.length+M.length):Calls Tryz.prog 147 #[.slice (some ⟨g,0,none⟩) 2 c] w fun e w'=>∃v',e= .returned v'∧w'.ownsRow w.heap.size 9 1 v' (L++M).length ((L++M).map .string)∧Below w.heap.size w w':=by
 obtain⟨i0,hi0,hz0,hz1,hz2⟩:=aM dM;have HI:=aa hi0;have HZ0:=aa hz0;have HZ1:=aa hz1;have HZ2:=aa hz2;clear hi0 hz0 hz1 hz2;obtain⟨⟨e0,e1⟩,_⟩:=aW hg;have HS1:=aa h1;have HS2:=aa h2;have HG:=aa hg;have hgr:=FA (L.length+M.length) h0 O9;have HL:Hid ((L++M).length=L.length+M.length):=aa List.length_append;clear hg h1 h2;rw[HL.out];generalize hn1:L.length=n1 at*;generalize hn2:M.length=n2 at*;rw[Int.natCast_add]at hgr;have HGR:=aa hgr;have HN1:=aa hn1;have HN2:=aa hn2;have k1:(n1:Int)≤1000:=O9
 have k2:(n2:Int)≤1000:=O9;have k3:(0:Int)≤n1:=O9;have k4:(0:Int)≤n2:=O9;clear hn1 hn2 hgr;go_enter Tryz.func147,Tryz.ntmps147;go_wp2_with fail;go_loopw [3,11] (fun s i wr=>wr=w∧((i= .int .i64 0∧s= .int .i64 0)∨(i= .int .i64 1∧s= .int .i64 n1)∨(i= .int .i64 2∧s= .int .i64 ((n1:Int)+n2)))) (fun _ i _=>(2-intOf i).toNat)
 case atStart=>exact⟨rfl,.inl ⟨rfl,rfl⟩⟩
 case round=>
  obtain⟨rfl,⟨rfl,rfl⟩|⟨rfl,rfl⟩|⟨rfl,rfl⟩⟩:=hrel
  ·go_wp2_with fail;refine⟨⟨by first|rfl|trivial,.inr (.inl ⟨by first|rfl|trivial,by first|rfl|(congr 1;omega)⟩)⟩,?_⟩;simp[intOf]
  ·go_wp2_with fail;refine⟨⟨by first|rfl|trivial,.inr (.inr ⟨by first|rfl|trivial,by first|rfl|(congr 1;omega)⟩)⟩,?_⟩;simp[intOf]
  ·go_wp2_with fail;refine(HGR.out _).mono ?_;rintro _ w2 ⟨g3,cg,rfl,ho2,hb2⟩;have HO2:=aa ho2;have HB2:=aa hb2;clear ho2 hb2 e0 e1 HGR;go_wp2_with fail;obtain⟨wo,hwo⟩:∃wo,wo=wr:=⟨_,rfl⟩;subst hwo;go_loopw [6,27] (fun s i wq=>Hid (Below wo.heap.size wo wq)∧((i= .int .i64 0∧Hid (wq.ownsRow wo.heap.size 9 1 s 0 []))∨(i= .int .i64 1∧Hid (wq.ownsRow wo.heap.size 9 1 s n1 (L.map .string)))∨(i= .int .i64 2∧Hid (wq.ownsRow wo.heap.size 9 1 s (n1+n2) ((L++M).map .string))))) (fun _ i _=>(2-intOf i).toNat)
   case atStart=>exact⟨HB2,.inl ⟨rfl,HO2⟩⟩
   case round=>
    obtain⟨hbq,⟨rfl,hoq⟩|⟨rfl,hoq⟩|⟨rfl,hoq⟩⟩:=hrel
    ·obtain⟨⟨e0,e1⟩,_⟩:=aW (ai hbq.out HG.out);have HO:=aa hoq.out;have HN8:Hid (∀j u,(L.map Value.string)[j]? =some u→wr.cell? (Addr.add ⟨g1,o1,none⟩ j)=some u):=aa (sY (HS1.out.below h1l hbq.out));have HLM:Hid ((L.map Value.string).length=n1*1):=aa (by rw[List.length_map,HN1.out,Nat.mul_one]);have HBQ:=aa hbq.out;clear hbq hoq
     go_wp2_with (at_builtin;go_must (refine wpList_append_own _ rfl _ _ 39 rfl wo.heap.size 9 i0 (.string ⟨#[]⟩) 1 16 Tryz.underlying39 HI.out HZ0.out HZ1.out HZ2.out rfl (by decide) _ 0 [] rfl HO.out ⟨g1,o1,none⟩ n1 c1 (L.map Value.string) rfl HLM.out HN8.out ?c2 ?c3 ?c4 ?c5 ?_))
     case c2=>intro u hu;obtain⟨x,_,rfl⟩:=List.mem_map.1 hu;rfl
     case c3=>unfold maxLen;omega
     case c4=>omega
     case c5=>exact HBQ.out.size
     intro v' w9 hown' hgrow _;have HB9:=aa (HBQ.out.grown hgrow HBQ.out.size (fun b hb=>(aj HO.out hb).1));have HO9:=aa hown';clear hown' hgrow HBQ HO HN8 HLM e0 e1;go_wp2_with fail;refine⟨⟨HB9,.inr (.inl ⟨rfl,HO9⟩)⟩,by simp[intOf]⟩
    ·obtain⟨⟨e0,e1⟩,_⟩:=aW (ai hbq.out HG.out);have HO:=aa hoq.out;have HN8:Hid (∀j u,(M.map Value.string)[j]? =some u→wr.cell? (Addr.add ⟨g2,o2,none⟩ j)=some u):=aa (sY (HS2.out.below h2l hbq.out));have HLM:Hid ((M.map Value.string).length=n2*1):=aa (by rw[List.length_map,HN2.out,Nat.mul_one]);have HBQ:=aa hbq.out;clear hbq hoq
     go_wp2_with (at_builtin;go_must (refine wpList_append_own _ rfl _ _ 39 rfl wo.heap.size 9 i0 (.string ⟨#[]⟩) 1 16 Tryz.underlying39 HI.out HZ0.out HZ1.out HZ2.out rfl (by decide) _ n1 (L.map Value.string) rfl HO.out ⟨g2,o2,none⟩ n2 c2 (M.map Value.string) rfl HLM.out HN8.out ?c2 ?c3 ?c4 ?c5 ?_))
     case c2=>intro u hu;obtain⟨x,_,rfl⟩:=List.mem_map.1 hu;rfl
     case c3=>unfold maxLen;omega
     case c4=>omega
     case c5=>exact HBQ.out.size
     intro v' w9 hown' hgrow _;have HB9:=aa (HBQ.out.grown hgrow HBQ.out.size (fun b hb=>(aj HO.out hb).1));have HO9:=aa hown';clear hown' hgrow HBQ HO HN8 HLM e0 e1;go_wp2_with fail;refine⟨⟨HB9,.inr (.inr ⟨rfl,aa (by rw[List.map_append];exact HO9.out)⟩)⟩,by simp[intOf]⟩
    ·go_wp2_with fail;go_ret;exact⟨_,rfl,hoq.out,hbq.out⟩
theorem C7(c:List BA):dt c 0=c:=by unfold dt;simp
theorem FB{W:World}{B g cap:Nat}{c:List BA}(h:W.ownsRow B 9 1 (.slice (some ⟨g,0,none⟩) c.length cap) c.length (c.map .string))(k:Nat):nH W g k (c.drop k)∧nH W g 0 (c.take k):=by
 have key:∀i s,c[i]? =some s→W.cell? ⟨g,i,none⟩=some (.string s):=fun i s hi=>by
  have:=h.cells (g:=g) rfl i (.string s) (by rw[List.getElem?_map,hi];rfl);have e:(⟨g,0,none⟩:Addr).add i=⟨g,i,none⟩:=by simp only[Addr.add];split<;>simp_all
  rw[←e];exact this
 refine⟨fun i s hi=>?_,fun i s hi=>?_⟩
 ·rw[List.getElem?_drop]at hi;exact key _ s hi
 ·rw[List.getElem?_take]at hi;split at hi
  ·rw[Nat.zero_add];exact key i s hi
  ·cases hi
theorem uC{W:World}{B B' sz n:Nat}{t:TypeId}{v:Value}{xs:List Value}(h:W.ownsRow B t sz v n xs)(hb:B'≤B):W.ownsRow B' t sz v n xs:=by
 obtain⟨h1,h2⟩:=h;refine⟨h1,?_⟩;rcases h2 with h2|⟨g,cap,cur,hv,hB,hr⟩
 ·exact .inl h2
 ·exact .inr ⟨g,cap,cur,hv,Nat.le_trans hb hB,hr⟩
theorem fv{W:World}{B n:Nat}{t:TypeId}{sz:Nat}{v:Value}{xs:List Value}(h:W.ownsRow B t sz v n xs)(hn:0<n):∃g cap,v= .slice (some ⟨g,0,none⟩) n cap:=by
 rcases h.2 with⟨_,h0⟩|⟨g,cap,_,rfl,_⟩
 ·omega
 ·exact⟨g,cap,rfl⟩
theorem zD(B:Nat)(c:List BA)(hne:c≠[])(hl:c.length≤1000)(v:Value)(w:World)(hB:B≤w.heap.size)(hv:w.ownsRow B 9 1 v c.length (c.map .string)):Calls Tryz.prog 100 #[v] w fun e w'=>∃v' i,e= .returned v'∧i≤c.length∧w'.ownsRow B 9 1 v' (dt c i).length ((dt c i).map .string)∧Below w.heap.size w w':=by
 obtain⟨g,cap,rfl⟩:∃g cap,v= .slice (some ⟨g,0,none⟩) c.length cap:=by
  rcases hv.2 with⟨_,h0⟩|⟨g,cap,_,rfl,_⟩
  ·exact absurd (List.length_eq_zero_iff.1 h0) hne
  ·exact⟨g,cap,rfl⟩
 obtain⟨hgl,hcap⟩:g<w.heap.size∧c.length≤cap:=by
  rcases hv.2 with⟨hh,_⟩|⟨g',cap',cur,hh,_,hb,hc,_⟩
  ·cases hh
  ·cases hh;exact⟨lt_of_block hb,hc⟩
 have h0:0<c.length:=List.length_pos_iff.2 hne;have HV:=aa hv;have HS:Hid (w.ownsRow B 9 1 (.slice (some ⟨g,0,none⟩) c.length cap) (dt c 0).length ((dt c 0).map .string)):=aa (by rw[C7];exact hv);obtain⟨n,hn⟩:∃n,c.length=n:=⟨_,rfl⟩;have HN:=aa hn;rw[hn]at hl h0 hcap HS ⊢;clear hv hn;go_enter Tryz.func100,Tryz.ntmps100;go_wp2_with fail
 go_loopw [3,8] (fun s i wr=>∃(k j:Nat)(u:Value),k≤n∧i= .int .i64 k∧u=s∧j≤n∧Hid (wr.ownsRow B 9 1 u (dt c j).length ((dt c j).map .string))∧Hid (Below w.heap.size w wr)) (fun _ i _=>n-(intOf i).toNat)
 case atStart=>exact⟨0,0,_,Nat.zero_le _,rfl,rfl,Nat.zero_le _,HS,Below.refl _ _⟩
 case round=>
  obtain⟨k,j,u,hk,rfl,rfl,hj,hs,hb⟩:=hrel;by_cases hlt:k<n
  ·obtain⟨gu,cu,rfl⟩:=fv hs.out (by rw[gP (by rw[HN.out];exact hj),HN.out];exact h0);have k0:(0:Int)≤k:=O9;have k1:(k:Int)<n:=O9;have k2:(k:Int)≤n:=O9;have k3:(n:Int)≤cap:=O9;have k4:(k:Int)≤cap:=O9;go_upto_region 5 with(fail);have HB:=aa hb.out.drew;have HSS:=aa (ao hs.out (aA wr));refine wp_region_any K9 ?_;change wpAny _ _ _ _ _ _ _ (World.drew _);clear hs hb;generalize wr.drew=wd at*;obtain⟨p1,p2⟩:=FB (ao HV.out (HB.out)) k
   have HRK:Hid ((dt c k).length=n):=aa (by rw[gP (by rw[HN.out];exact hk),HN.out]);have HCC:Hid (Calls Tryz.prog 147 #[.slice (some ⟨wd.heap.size,0,none⟩) 2 2] (wd.alloc (.cells #[.slice (some ⟨g,k,none⟩) (n-k) (cap-k),.slice (some ⟨g,0,none⟩) k cap] 39)) fun e w'=>∃v',e= .returned v'∧w'.ownsRow (wd.heap.size+1) 9 1 v' n ((dt c k).map .string)∧Below (wd.heap.size+1) (wd.alloc (.cells #[.slice (some ⟨g,k,none⟩) (n-k) (cap-k),.slice (some ⟨g,0,none⟩) k cap] 39)) w'):=aa (by
    (have hd:(c.drop k).length=n-k:=by rw[List.length_drop,HN.out]);have ht:(c.take k).length=k:=by rw[List.length_take,HN.out];omega
    have:=zC wd.heap.size 2 g k (cap-k) g 0 cap (c.drop k) (c.take k) (wd.alloc (.cells #[.slice (some ⟨g,k,none⟩) (n-k) (cap-k),.slice (some ⟨g,0,none⟩) k cap] 39)) (by rw[hd,ht];exact heap_alloc_new _ _) (by simp) (by have:=HB.out.size;simp;omega) (by have:=HB.out.size;simp;omega) (p1.below (Nat.lt_of_lt_of_le hgl HB.out.size) ((Below.refl _ _).alloc (Nat.le_refl _) _)) (p2.below (Nat.lt_of_lt_of_le hgl HB.out.size) ((Below.refl _ _).alloc (Nat.le_refl _) _)) O9 O9 O9
    rw[show c.drop k++c.take k=dt c k from rfl,HRK.out]at this;simpa using this)
   clear p1 p2;simp only[List.size_toArray,List.length_cons,List.length_nil,Nat.reduceAdd];refine wpAny_take (i:=0) (v:=.slice (some ⟨gu,0,none⟩) (dt c j).length cu) rfl K9 K9 K9 (fun _ _ _ h=>h) (.inl ⟨K9,fun w=>rfl⟩) ?_;refine wpAny_take (i:=1) (v:=.slice (some ⟨g,0,none⟩) n cap) rfl K9 K9 K9 (fun _ _ _ h=>h) (.inl ⟨K9,fun w=>by go_simp⟩) ?_;refine wpAny_take (i:=2) (v:=.int .i64 k) rfl K9 K9 K9 (fun _ _ _ h=>h) (.inl ⟨K9,fun w=>by go_simp⟩) ?_
   refine wpAny_take (i:=3) (v:=.slice (some ⟨g,k,none⟩) (n-k) (cap-k)) rfl K9 K9 K9 (fun _ _ _ h=>h) (.inl ⟨K9,fun w=>by go_simp;intro h;omega⟩) ?_;refine wpAny_take (i:=4) (v:=.slice (some ⟨g,0,none⟩) n cap) rfl K9 K9 K9 (fun _ _ _ h=>h) (.inl ⟨K9,fun w=>by go_simp⟩) ?_;refine wpAny_take (i:=5) (v:=.int .i64 k) rfl K9 K9 K9 (fun _ _ _ h=>h) (.inl ⟨K9,fun w=>by go_simp⟩) ?_;refine wpAny_take (i:=6) (v:=.slice (some ⟨g,0,none⟩) k cap) rfl K9 K9 K9 (fun _ _ _ h=>h) (.inl ⟨K9,fun w=>by go_simp⟩) ?_
   refine wpAny_ready (rs:=[7]) K9 (by simp) ?_;refine AllReady.cons rfl (fun K' hK=>?_) (AllReady.nil);rw[if_pos K9];go_simp;refine hK _ _ ?_;refine wpAny_ready (rs:=[8]) K9 (by simp) ?_;refine AllReady.cons rfl (fun K' hK=>?_) (AllReady.nil);rw[if_pos K9];go_simp;go_at_call 147;refine HCC.out.mono ?_;rintro _ w2 ⟨v2,rfl,ho2,hb2⟩;obtain⟨g2,c2,rfl⟩:=fv ho2 h0;have HO2:=aa ho2;have HB2:=aa ((HB.out.alloc HB.out.size _).trans (hb2.mono (by have:=HB.out.size;omega)))
   have hu2:=ao HSS.out (((Below.refl _ wd).alloc (Nat.le_refl _) _).trans (hb2.mono (by simp)));have HU2:=aa hu2
   have HMT:=aa (G7 w2.heap.size 2 (.slice (some ⟨gu,0,none⟩) (dt c j).length cu) (.slice (some ⟨g2,0,none⟩) n c2) (dt c j) (dt c k) (w2.alloc (.cells #[.slice (some ⟨gu,0,none⟩) (dt c j).length cu,.slice (some ⟨g2,0,none⟩) n c2] 39)) (heap_alloc_new _ _) ((cT hu2 rfl).below ((Below.refl _ _).alloc (Nat.le_refl _) _)) ((cT ho2 HRK.out.symm).below ((Below.refl _ _).alloc (Nat.le_refl _) _)) (by rw[gP (by rw[HN.out];exact hj),HN.out];omega) (by rw[HRK.out];omega));clear ho2 hb2 hu2 HCC
   refine hK _ _ ?_;refine wpAny_ready (rs:=[9]) K9 (by simp) ?_;refine AllReady.cons rfl (fun K' hK=>?_) (AllReady.nil);rw[if_pos K9];go_simp;refine hK _ _ ?_;refine wpAny_ready (rs:=[10]) K9 (by simp) ?_;refine AllReady.cons rfl (fun K' hK=>?_) (AllReady.nil);rw[if_pos K9];go_simp;go_at_call 146;refine HMT.out.mono ?_;rintro _ w4 ⟨rfl,hb4⟩;have HB4:=aa (aq (aq HB2.out ((Below.refl _ _).alloc (Nat.le_refl _) _)) hb4)
   have HU4:=aa (ao HU2.out (((Below.refl _ w2).alloc (Nat.le_refl _) _).trans (hb4.mono (by simp))));have HO4:=aa (ao HO2.out (((Below.refl _ w2).alloc (Nat.le_refl _) _).trans (hb4.mono (by simp))));clear hb4 HMT;refine hK _ _ ?_;refine wpAny_ready (rs:=[11]) K9 (by simp) ?_;refine AllReady.cons rfl (fun K' hK=>?_) (AllReady.nil);rw[if_pos K9];go_simp;refine hK _ _ ?_;refine wpAny_done K9 ?_ _;go_simp;go_wp2_with fail;by_cases hc:cI (dt c k) (dt c j)<0
   ·refine⟨⟨k+1,k,_,O9,by go_num,rfl,hk,?_,HB4⟩,by simp[intOf];omega⟩;rw[if_pos hc,HRK.out];exact aa (uC HO4.out (by have:=HB.out.size;omega))
   ·refine⟨⟨k+1,j,_,O9,by go_num,rfl,hj,?_,HB4⟩,by simp[intOf];omega⟩;rw[if_neg hc];exact HU4
  ·(have hkn:k=n:=by omega);go_wp2_with fail;go_ret;exact⟨_,j,rfl,hj,hs.out,hb.out⟩
end Go.Proofs.YtfkgjbdeicggaaaGreat
namespace Go.Proofs.Pto
open Go
section
variable {P:Program} {ops:Array Oper} {Q:Exit→Act→World→Prop} {md:Region.Mode}
def eC(M:World→Prop)(P:Program)(ops:Array Oper)(o:Oper)(v:Value)(a:Act):Prop:=
 (Region.wanted o (yielded ops a.tmps)=true∧∀w,M w→(execOp a.eval o).run P w= .ok (.value v) w)∨
 (Region.wanted o (yielded ops a.tmps)=false∧v=undef)
theorem eC.wpOp{M:World→Prop}{i:Nat}{o:Oper}{v:Value}{a:Act}(hi:ops[i]? =some o)(hy:eC M P ops o v a)
  {K:Act→World→Prop}{w:World}(hm:M w)(h:K (a.put o.dst v) w):wpOp P ops Q i K a w:=by
 unfold Go.wpOp;simp only[hi];rcases hy with⟨hw,hv⟩|⟨hw,rfl⟩
 ·simp only[hw,if_true,Oper.wp,hv w hm,Oper.upon];exact .inl h
 ·simp only[hw,Bool.false_eq_true,if_false];exact h
theorem eC.of_same{M:World→Prop}{o:Oper}{v:Value}{a b:Act}(hy:eC M P ops o v a)(he:execOp b.eval o=execOp a.eval o)
  (hw:Region.wanted o (yielded ops b.tmps)=Region.wanted o (yielded ops a.tmps)):eC M P ops o v b:=by
 unfold eC at*;rw[he,hw];exact hy
theorem sZ{M:World→Prop}{j:Nat}{g k:Oper}{v:Value}(hj:ops[j]? =some k)(q:g.apart ops k=true)
  (s:∀cs b,g.op≠ .select cs b)(p:∀cs b,k.op≠ .select cs b)
  (z:∀c a w,Q (.panic c) (a.put g.dst v) w→Q (.panic c) a w){K:Act→World→Prop}{a:Act}{w:World}
  (hy:eC M P ops g v a)(h:wpOp P ops Q j K (a.put g.dst v) w):
  wpOp P ops Q j (fun A w'=>eC M P ops g v A∧K (A.put g.dst v) w') a w:=by
 obtain⟨t,o,B⟩:=Oper.apart_spec q;have keep:∀(a:Act),eC M P ops g v a→∀u,eC M P ops g v (a.put k.dst u):=fun a hy u=>
  hy.of_same (execOp_put g s a k.dst u B) (wanted_put g a k.dst u B)
 have l:∀d,eC M P ops g v { a with defers:=d::a.defers}:=fun d=>hy.of_same rfl rfl;unfold wpOp at*;simp only[hj]at*;rw[wanted_put k a g.dst v t]at h;split
 ·rename_i hw;simp only[hw,if_true]at h;rcases h with h|⟨i,m⟩
  case inr=>exact .inr ⟨by unfold Oper.asks at*;rw[execOp_put k p a g.dst v t]at i;exact i,m⟩
  refine .inl ?_;unfold Oper.wp at*;rw[execOp_put k p a g.dst v t]at h;generalize (execOp a.eval k).run P w=r at*;cases r with
  |ok n w'=>
   cases n<;>simp only[Oper.upon]at h ⊢
   case value u=>exact⟨keep a hy u,by rw[←Act.put_comm a v u o];exact h⟩
   case skip=>exact⟨keep a hy _,by rw[←Act.put_comm a v undef o];exact h⟩
   case defer d=>
    refine⟨keep _ (l d) _,?_⟩;rw[←Act.put_comm _ v undef o,←Act.put_defers];exact h
   case enter f args=>
    refine Calls.mono h fun e y he=>?_;cases e with
    |returned u=>exact⟨keep a hy u,by rw[←Act.put_comm a v u o];exact he⟩
    |panicked c=>exact z _ _ _ he
    |outgrown=>exact he
   case row row args=>exact Rows.mono h fun u y he=>⟨keep a hy u,by rw[←Act.put_comm a v u o];exact he⟩
  |halt x w'=>
   cases x<;>simp only[Oper.upon]at h ⊢
   case panic u=>exact z _ _ _ h
 ·rename_i hw;simp only[hw]at h;exact⟨keep a hy _,by rw[←Act.put_comm a v undef o];exact h⟩
def cU(M:World→Prop)(z:Nat)(P:Program)(md:Region.Mode)(ops:Array Oper)(Q:Exit→Act→World→Prop):Nat→Array Bool→Act→World→Prop
 |0,listed,a,w=>(listed.getD z true=false→M w)∧Region.ready md ops listed=[]∧Q .normal a w
 |fuel+1,listed,a,w=>(listed.getD z true=false→M w)∧(Region.ready md ops listed=[]→Q .normal a w)∧∀i∈Region.ready md ops listed,wpOp P ops Q i (cU M z P md ops Q fuel (listed.setIfInBounds i true)) a w
theorem cU.mem{M:World→Prop}{z:Nat}{fuel:Nat}{b:Array Bool}{a:Act}{w:World}(h:cU M z P md ops Q fuel b a w)(c:b.getD z true=false):M w:=by
 cases fuel with
 |zero=>exact h.1 c
 |succ n=>exact h.1 c
theorem cU.any{M:World→Prop}{z:Nat}:∀ {fuel:Nat}{b:Array Bool}{a:Act}{w:World},cU M z P md ops Q fuel b a w→wpAny P md ops Q fuel b a w:=by
 intro fuel;induction fuel with
 |zero=>intro l a w h;exact⟨h.2.1,h.2.2⟩
 |succ n c=>intro l a w h;exact⟨h.2.1,fun i hi=>wpOp_mono (fun a w h=>c h) (h.2.2 i hi)⟩
theorem uD{M:World→Prop}{z i:Nat}{s K:Oper}{v:Value}(O:ops[z]? =some K)(D:∃e∈K.after,Region.binds md e=true∧e.on=i)(x:z≠i)(hi:ops[i]? =some s)(p:∀(j:Nat)(o:Oper) cs b,ops[j]? =some o→o.op≠ .select cs b)
  (R:∀c a w,Q (.panic c) (a.put s.dst v) w→Q (.panic c) a w):
  ∀(fuel:Nat)(d:Array Bool)(a:Act)(w:World),d.getD z true=false→
   (∀j t,ops[j]? =some t→j≠i→d.getD j true=false→(∀e∈t.after,Region.binds md e=true→e.on≠i)→s.apart ops t=true)→
   i∈Region.ready md ops d→eC M P ops s v a→
   cU M z P md ops Q fuel (d.setIfInBounds i true) (a.put s.dst v) w→cU M z P md ops Q (fuel+1) d a w:=by
 intro fuel;induction fuel with
 |zero=>
  intro d a w m _ hr hy H;have y:M w:=H.mem (by rw[getD_set_ne true (Ne.symm x)];exact m);refine⟨fun _=>y,fun h=>(by rw[h]at hr;cases hr),fun j hj=>?_⟩;by_cases f:j=i
  ·subst f;exact hy.wpOp hi y H
  ·have:=ready_mono hj f;rw[H.2.1]at this;cases this
 |succ fuel S=>
  intro d a w m g hr hy H;have y:M w:=H.mem (by rw[getD_set_ne true (Ne.symm x)];exact m);refine⟨fun _=>y,fun h=>(by rw[h]at hr;cases hr),fun j hj=>?_⟩;by_cases f:j=i
  ·subst f;exact hy.wpOp hi y H
  ·have u:=H.2.2 j (ready_mono hj f);obtain⟨q,t,l,A⟩:=mem_ready.1 hj;have r:∀e∈t.after,Region.binds md e=true→e.on≠i:=fun e he hb heq=>by
    have u:=A e he hb;have L:=(mem_ready.1 hr).1;rw[heq]at u;rcases Nat.lt_or_ge i d.size with E|E
    ·simp[E]at L u;rw[L]at u;cases u
    ·simp[Array.getElem?_eq_none E]at u
   have F:j≠z:=fun e=>by
    subst e;rw[O]at l;cases l;obtain⟨e,he,hb,G⟩:=D;exact r e he hb G
   have T:=sZ l (g j t l f q r) (fun cs b=>p i s cs b hi) (fun cs b=>p j t cs b l) R hy u;have n:∀k ok,ops[k]? =some ok→k≠i→(d.setIfInBounds j true).getD k true=false→(∀e∈ok.after,Region.binds md e=true→e.on≠i)→s.apart ops ok=true:=fun k ok U I B J=>by
    refine g k ok U I ?_ J;by_cases C:j=k
    ·subst C;exact q
    ·rw[getD_set_ne true C]at B;exact B
   refine wpOp_mono (fun V w' N=>S (d.setIfInBounds j true) V w' (by rw[getD_set_ne true F];exact m) n (ready_mono hr (Ne.symm f)) N.1 ?_) T;rw[Array.setIfInBounds_comm _ _ f];exact N.2
def uE(md:Region.Mode)(ops:Array Oper)(z i:Nat):Bool:=match ops[z]? with
 |none=>false
 |some oz=>oz.after.any fun e=>Region.binds md e&&e.on ==i
theorem pC{M:World→Prop}{z:Nat}{i:Nat}{g:Oper}{v:Value}{fuel:Nat}{b:Array Bool}{a:Act}{w:World}(hi:ops[i]? =some g)
  (hs:Region.noSelect ops=true)(k:Region.free md ops b i=true)(hr:(Region.ready md ops b).contains i=true)
  (j:(uE md ops z i&&(!b.getD z true&& !(z ==i)))=true)(l:∀c a w,Q (.panic c) (a.put g.dst v) w→Q (.panic c) a w)(hy:eC M P ops g v a)
  (h:cU M z P md ops Q fuel (b.setIfInBounds i true) (a.put g.dst v) w):cU M z P md ops Q (fuel+1) b a w:=by
 simp only[Bool.and_eq_true,Bool.not_eq_true',beq_eq_false_iff_ne]at j;obtain⟨f,m,n⟩:=j;unfold uE at f;cases d:ops[z]? with
 |none=>rw[d]at f;cases f
 |some o=>
  rw[d]at f;obtain⟨e,he,hb⟩:=Array.any_eq_true'.1 f;simp only[Bool.and_eq_true,beq_iff_eq]at hb;exact uD d ⟨e,he,hb⟩ n hi (Region.noSelect_spec hs) l fuel b a w m (Region.free_spec hi k) (by simpa using hr) hy h
def bL(M:World→Prop)(z:Nat)(P:Program)(md:Region.Mode)(ops:Array Oper)(Q:Exit→Act→World→Prop)(fuel:Nat)(listed:Array Bool)(a:Act)(w:World)(rs:List Nat):Prop:=
 ∀i∈rs,wpOp P ops Q i (cU M z P md ops Q fuel (listed.setIfInBounds i true)) a w
theorem bL.nil{M:World→Prop}{z:Nat}{fuel:Nat}{b:Array Bool}{a:Act}{w:World}:bL M z P md ops Q fuel b a w []:=fun _ h=>by cases h
theorem bL.cons{M:World→Prop}{z:Nat}{fuel:Nat}{b:Array Bool}{a:Act}{w:World}{i:Nat}{o:Oper}{rs:List Nat}(d:ops[i]? =some o)
  (h:∀c:Act→World→Prop,(∀a w,cU M z P md ops Q fuel (b.setIfInBounds i true) a w→c a w)→if Region.wanted o (yielded ops a.tmps)=true then Oper.wp P o a w c Q else c (a.put o.dst undef) w)
  (hs:bL M z P md ops Q fuel b a w rs):bL M z P md ops Q fuel b a w (i::rs):=fun j hj=>by
 rcases List.mem_cons.1 hj with rfl|hj
 ·exact wpOp_step d h
 ·exact hs j hj
theorem aG{M:World→Prop}{z:Nat}{rs:List Nat}{fuel:Nat}{b:Array Bool}{a:Act}{w:World}(hr:Region.ready md ops b=rs)(c:rs≠[])(d:M w)
  (h:bL M z P md ops Q fuel b a w rs):cU M z P md ops Q (fuel+1) b a w:=⟨fun _=>d,fun e=>absurd (hr▸e) c,hr▸h⟩
theorem xn{M:World→Prop}{z:Nat}{b:Array Bool}{a:Act}{w:World}(c:b.getD z true=true)(hr:Region.ready md ops b=[])(h:Q .normal a w):∀fuel,cU M z P md ops Q fuel b a w
 |0=>⟨fun e=>(by rw[c]at e;cases e),hr,h⟩
 |_+1=>⟨fun e=>(by rw[c]at e;cases e),fun _=>h,by rw[hr];simp⟩
theorem wk{M:World→Prop}{z:Nat}(i:Nat){d:Oper}(v:Value){fuel:Nat}{b:Array Bool}{a:Act}{w:World}(hi:ops[i]? =some d)(hp:∀w,M w→(execOp a.eval d).run P w=.ok (.value v) w)
  (h:cU M z P md ops Q fuel (b.setIfInBounds i true) (a.put d.dst v) w)(hs:Region.noSelect ops=true:=by kernel_rfl)(e:Region.free md ops b i=true:=by kernel_rfl)(hr:(Region.ready md ops b).contains i=true:=by kernel_rfl)
  (f:(uE md ops z i&&(!b.getD z true&&!(z ==i)))=true:=by kernel_rfl)(g:∀c a w,Q (.panic c) (a.put d.dst v) w→Q (.panic c) a w:=by exact fun _ _ _ h=>h)(hw:Region.wanted d (yielded ops a.tmps)=true:=by kernel_rfl):
  cU M z P md ops Q (fuel+1) b a w:=pC hi hs e hr f g (.inl ⟨hw,hp⟩) h
theorem wkg{M:World→Prop}{z:Nat}(i:Nat){d:Oper}(v:Value){fuel:Nat}{b:Array Bool}{a:Act}{w:World}(hi:ops[i]? =some d)
  (h:cU M z P md ops Q fuel (b.setIfInBounds i true) (a.put d.dst v) w)(hp:∀w,M w→(execOp a.eval d).run P w=.ok (.value v) w:=by intro w hm;go_simp)(hs:Region.noSelect ops=true:=by kernel_rfl)(e:Region.free md ops b i=true:=by kernel_rfl)(hr:(Region.ready md ops b).contains i=true:=by kernel_rfl)
  (f:(uE md ops z i&&(!b.getD z true&&!(z ==i)))=true:=by kernel_rfl)(g:∀c a w,Q (.panic c) (a.put d.dst v) w→Q (.panic c) a w:=by exact fun _ _ _ h=>h)(hw:Region.wanted d (yielded ops a.tmps)=true:=by kernel_rfl):
  cU M z P md ops Q (fuel+1) b a w:=pC hi hs e hr f g (.inl ⟨hw,hp⟩) h
theorem wnM{M:World→Prop}{z:Nat}{fuel:Nat}{b:Array Bool}{a:Act}{w:World}{i:Nat}{o:Oper}(d:ops[i]? =some o)
  (h:∀c:Act→World→Prop,(∀a w,cU M z P md ops Q fuel (b.setIfInBounds i true) a w→c a w)→if Region.wanted o (yielded ops a.tmps)=true then Oper.wp P o a w c Q else c (a.put o.dst undef) w):bL M z P md ops Q fuel b a w [i]:=.cons d h .nil
theorem wr1{M:World→Prop}{z:Nat}(i:Nat){o:Oper}{fuel:Nat}{b:Array Bool}{a:Act}{w:World}(d:M w)(e:ops[i]? =some o)
  (h:∀c:Act→World→Prop,(∀a w,cU M z P md ops Q fuel (b.setIfInBounds i true) a w→c a w)→Oper.wp P o a w c Q)(hr:Region.ready md ops b=[i]:=by kernel_rfl)(hw:Region.wanted o (yielded ops a.tmps)=true:=by kernel_rfl):cU M z P md ops Q (fuel+1) b a w:=
 aG hr (by simp) d (wnM e fun c f=>by rw[if_pos hw];exact h c f)
theorem wdM{M:World→Prop}{z:Nat}{b:Array Bool}{a:Act}{w:World}{fuel:Nat}(h:Q .normal a w)(c:b.getD z true=true:=by kernel_rfl)(hr:Region.ready md ops b=[]:=by kernel_rfl):cU M z P md ops Q fuel b a w:=xn c hr h _
theorem aU{id:Nat}{a:Act}{w:World}(M:World→Prop)(z:Nat)(hm:P.follows .mixedOrders=true)
  (h:cU M z P .any ops Q ops.size (Array.replicate ops.size false) a w.drew):(Code.region id ops true).wp P Q a w:=
 wp_region_any hm h.any
end
