/-
  On of the geometry, walked.
-/
import Derived.Test.YtfkgjbdeicggaaaGreatZA
import Derived.Deep.DeepCutAuto
set_option maxHeartbeats 4000000
set_option maxRecDepth 100000
namespace Go.Proofs.YtfkgjbdeicggaaaGreat
open Go.RowKit Go.Proofs.Pg
theorem Bc(ax ay bx bY cx cy:Int)(w:World):Calls Tryz.prog 128 #[.agg #[.int .i64 ax,.int .i64 ay,.int .i64 bx,.int .i64 bY],.agg #[.int .i64 cx,.int .i64 cy]] w fun e w'=>e= .returned (.bool (eD ⟨⟨ax,ay⟩,⟨bx,bY⟩⟩ ⟨cx,cy⟩))∧Below w.heap.size w w':=by
 obtain⟨R,hR⟩:∃R,R=eD ⟨⟨ax,ay⟩,⟨bx,bY⟩⟩ ⟨cx,cy⟩:=⟨_,rfl⟩;rw[←hR];cases hn:aD [⟨ax,ay⟩,⟨bx,bY⟩,⟨cx,cy⟩]with
 |false=>
  have HN:=aa (near3 ax ay bx bY cx cy false hn);have hr:R=false:=by rw[hR,eD,hn];rfl
  have HR2:=aa hr;clear hn hr hR;go_enter Tryz.func128,Tryz.ntmps128;go_wp2_with fail;refine(HN.out _ _ _ _ (by simp)).mono ?_;rintro _ w1 ⟨rfl,b1⟩;go_wp2_with fail;go_ret;exact⟨ag HR2.out.symm,aq (((Below.refl _ _).alloc (Nat.le_refl _) _).alloc (by simp) _) b1⟩
 |true=>
  have HN:=aa (near3 ax ay bx bY cx cy true hn);have HS:=aa (cJ ax ay bx bY);obtain⟨s',hs'⟩:∃s',aO ⟨⟨ax,ay⟩,⟨bx,bY⟩⟩=s':=⟨_,rfl⟩;obtain⟨⟨sx,sy⟩,⟨tx,ty⟩⟩:=s';have hr:R=(ah ⟨sx,sy⟩ ⟨tx,ty⟩ ⟨cx,cy⟩ ==0&&aN ⟨sx,sy⟩ ⟨cx,cy⟩≤0&&aN ⟨cx,cy⟩ ⟨tx,ty⟩≤0&&(!dO sx sy tx ty||dO cx cy sx sy)):=by
   have e1:=fp ⟨sx,sy⟩ ⟨tx,ty⟩;have e2:=fp ⟨cx,cy⟩ ⟨sx,sy⟩;simp only at e1 e2;rw[hR,eD,hn,hs',e1,e2];simp only[Bool.true_and,decide_not]
  have HO:=aa (cX sx sy tx ty cx cy);have HC1:=aa (dD sx sy cx cy);have HC2:=aa (dD cx cy tx ty);rw[hs']at HS;unfold vS at HS;generalize ah ⟨sx,sy⟩ ⟨tx,ty⟩ ⟨cx,cy⟩=o at hr HO;generalize aN ⟨sx,sy⟩ ⟨cx,cy⟩=c1 at hr HC1;generalize aN ⟨cx,cy⟩ ⟨tx,ty⟩=c2 at hr HC2;have HR:=aa hr;clear hn hr hR hs';cases ho:(o ==0)with
  |false=>
   go_enter Tryz.func128,Tryz.ntmps128;go_wp2_with fail;refine(HN.out _ _ _ _ (by simp)).mono ?_;rintro _ w1 ⟨rfl,b1⟩;have q:=dj b1;obtain⟨q1,q2⟩:=q;go_wp2_with fail;refine(HS.out _).mono ?_;rintro _ w2 ⟨rfl,b2⟩;have HB1:=aa (aq (((Below.refl _ w).alloc (Nat.le_refl _) _).alloc (by simp) _) b1);have HB:=aa (aq HB1.out b2)
   have k1:w2.heap[w.heap.size]? =some (.cells #[.int .i64 ax,.int .i64 ay,.int .i64 bx,.int .i64 bY] 68 (0,0)):=ai b2 (ai (aq ((Below.refl _ _).alloc (Nat.le_refl _) _) b1) (cj _ _ _ rfl));have k2:w2.heap[w.heap.size+1]? =some (.cells #[.int .i64 cx,.int .i64 cy] 44 (0,0)):=ai b2 (ai b1 (cj _ _ _ (by simp)));have hz2:=lt_of_block k2;have hz1:w.heap.size<w2.heap.size:=O9;obtain⟨⟨e1,e2,e3,e4⟩,f1,f2,f3,f4⟩:=aE k1;obtain⟨⟨e5,e6⟩,f5,f6⟩:=aW k2;clear k1 k2 q1 q2 b1 b2 HB1;go_wp2_with fail
   refine(HO.out _).mono ?_;rintro _ w3 ⟨rfl,b3⟩;obtain⟨q1,q2⟩:=dj b3;have HB3:=aa (aq ((((HB.out.setCell (p:=⟨w.heap.size,0,none⟩) (by simp) (.int .i64 sx)).setCell (p:=⟨w.heap.size,1,none⟩) (by simp) (.int .i64 sy)).setCell (p:=⟨w.heap.size,2,none⟩) (by simp) (.int .i64 tx)).setCell (p:=⟨w.heap.size,3,none⟩) (by simp) (.int .i64 ty)) b3);have hz:=b3.size;simp only[World.size_setCell]at hz;have hz3:w.heap.size<w3.heap.size:=O9;have hz4:w.heap.size+1<w3.heap.size:=O9;clear b3 hz;go_wp2_with fail
   go_ret;exact⟨ag (by rw[HR.out,ho];rfl),HB3.out⟩
  |true=>
   by_cases h1:c1≤0
   ·by_cases h2:c2≤0
    ·cases h3:dO sx sy tx ty with
     |false=>
      go_enter Tryz.func128,Tryz.ntmps128;go_wp2_with fail;refine(HN.out _ _ _ _ (by simp)).mono ?_;rintro _ w1 ⟨rfl,b1⟩;have q:=dj b1;obtain⟨q1,q2⟩:=q;go_wp2_with fail;refine(HS.out _).mono ?_;rintro _ w2 ⟨rfl,b2⟩;have HB1:=aa (aq (((Below.refl _ w).alloc (Nat.le_refl _) _).alloc (by simp) _) b1);have HB:=aa (aq HB1.out b2)
      have k1:w2.heap[w.heap.size]? =some (.cells #[.int .i64 ax,.int .i64 ay,.int .i64 bx,.int .i64 bY] 68 (0,0)):=ai b2 (ai (aq ((Below.refl _ _).alloc (Nat.le_refl _) _) b1) (cj _ _ _ rfl));have k2:w2.heap[w.heap.size+1]? =some (.cells #[.int .i64 cx,.int .i64 cy] 44 (0,0)):=ai b2 (ai b1 (cj _ _ _ (by simp)));have hz2:=lt_of_block k2;have hz1:w.heap.size<w2.heap.size:=O9;obtain⟨⟨e1,e2,e3,e4⟩,f1,f2,f3,f4⟩:=aE k1;obtain⟨⟨e5,e6⟩,f5,f6⟩:=aW k2;clear k1 k2 q1 q2 b1 b2 HB1;go_wp2_with fail
      refine(HO.out _).mono ?_;rintro _ w3 ⟨rfl,b3⟩;obtain⟨q1,q2⟩:=dj b3;have HB3:=aa (aq ((((HB.out.setCell (p:=⟨w.heap.size,0,none⟩) (by simp) (.int .i64 sx)).setCell (p:=⟨w.heap.size,1,none⟩) (by simp) (.int .i64 sy)).setCell (p:=⟨w.heap.size,2,none⟩) (by simp) (.int .i64 tx)).setCell (p:=⟨w.heap.size,3,none⟩) (by simp) (.int .i64 ty)) b3);have hz:=b3.size;simp only[World.size_setCell]at hz;have hz3:w.heap.size<w3.heap.size:=O9;have hz4:w.heap.size+1<w3.heap.size:=O9;clear b3 hz;go_wp2_with fail
      refine(HC1.out _).mono ?_;rintro _ w4 ⟨rfl,b4⟩;obtain⟨r1,r2⟩:=dj b4;have HB4:=aa (aq HB3.out b4);have hz:=b4.size;have hz5:w.heap.size<w4.heap.size:=O9;have hz6:w.heap.size+1<w4.heap.size:=O9;clear b4 hz;go_wp2_with fail;refine(HC2.out _).mono ?_;rintro _ w5 ⟨rfl,b5⟩;obtain⟨s1,s2⟩:=dj b5;have HB5:=aa (aq HB4.out b5);clear b5;go_wp2_with fail;go_ret;exact⟨ag (by rw[HR.out,ho,h3];simp[h1,h2]),HB5.out⟩
     |true=>
      cases h4:dO cx cy sx sy with
      |true=>
       go_enter Tryz.func128,Tryz.ntmps128;go_wp2_with fail;refine(HN.out _ _ _ _ (by simp)).mono ?_;rintro _ w1 ⟨rfl,b1⟩;have q:=dj b1;obtain⟨q1,q2⟩:=q;go_wp2_with fail;refine(HS.out _).mono ?_;rintro _ w2 ⟨rfl,b2⟩;have HB1:=aa (aq (((Below.refl _ w).alloc (Nat.le_refl _) _).alloc (by simp) _) b1);have HB:=aa (aq HB1.out b2)
       have k1:w2.heap[w.heap.size]? =some (.cells #[.int .i64 ax,.int .i64 ay,.int .i64 bx,.int .i64 bY] 68 (0,0)):=ai b2 (ai (aq ((Below.refl _ _).alloc (Nat.le_refl _) _) b1) (cj _ _ _ rfl));have k2:w2.heap[w.heap.size+1]? =some (.cells #[.int .i64 cx,.int .i64 cy] 44 (0,0)):=ai b2 (ai b1 (cj _ _ _ (by simp)));have hz2:=lt_of_block k2;have hz1:w.heap.size<w2.heap.size:=O9;obtain⟨⟨e1,e2,e3,e4⟩,f1,f2,f3,f4⟩:=aE k1;obtain⟨⟨e5,e6⟩,f5,f6⟩:=aW k2;clear k1 k2 q1 q2 b1 b2 HB1;go_wp2_with fail
       refine(HO.out _).mono ?_;rintro _ w3 ⟨rfl,b3⟩;obtain⟨q1,q2⟩:=dj b3;have HB3:=aa (aq ((((HB.out.setCell (p:=⟨w.heap.size,0,none⟩) (by simp) (.int .i64 sx)).setCell (p:=⟨w.heap.size,1,none⟩) (by simp) (.int .i64 sy)).setCell (p:=⟨w.heap.size,2,none⟩) (by simp) (.int .i64 tx)).setCell (p:=⟨w.heap.size,3,none⟩) (by simp) (.int .i64 ty)) b3);have hz:=b3.size;simp only[World.size_setCell]at hz;have hz3:w.heap.size<w3.heap.size:=O9;have hz4:w.heap.size+1<w3.heap.size:=O9;clear b3 hz;go_wp2_with fail
       refine(HC1.out _).mono ?_;rintro _ w4 ⟨rfl,b4⟩;obtain⟨r1,r2⟩:=dj b4;have HB4:=aa (aq HB3.out b4);have hz:=b4.size;have hz5:w.heap.size<w4.heap.size:=O9;have hz6:w.heap.size+1<w4.heap.size:=O9;clear b4 hz;go_wp2_with fail;refine(HC2.out _).mono ?_;rintro _ w5 ⟨rfl,b5⟩;obtain⟨s1,s2⟩:=dj b5;have HB5:=aa (aq HB4.out b5);clear b5;go_wp2_with fail;go_ret;exact⟨ag (by rw[HR.out,ho,h3,h4];simp[h1,h2]),HB5.out⟩
      |false=>
       go_enter Tryz.func128,Tryz.ntmps128;go_wp2_with fail;refine(HN.out _ _ _ _ (by simp)).mono ?_;rintro _ w1 ⟨rfl,b1⟩;have q:=dj b1;obtain⟨q1,q2⟩:=q;go_wp2_with fail;refine(HS.out _).mono ?_;rintro _ w2 ⟨rfl,b2⟩;have HB1:=aa (aq (((Below.refl _ w).alloc (Nat.le_refl _) _).alloc (by simp) _) b1);have HB:=aa (aq HB1.out b2)
       have k1:w2.heap[w.heap.size]? =some (.cells #[.int .i64 ax,.int .i64 ay,.int .i64 bx,.int .i64 bY] 68 (0,0)):=ai b2 (ai (aq ((Below.refl _ _).alloc (Nat.le_refl _) _) b1) (cj _ _ _ rfl));have k2:w2.heap[w.heap.size+1]? =some (.cells #[.int .i64 cx,.int .i64 cy] 44 (0,0)):=ai b2 (ai b1 (cj _ _ _ (by simp)));have hz2:=lt_of_block k2;have hz1:w.heap.size<w2.heap.size:=O9;obtain⟨⟨e1,e2,e3,e4⟩,f1,f2,f3,f4⟩:=aE k1;obtain⟨⟨e5,e6⟩,f5,f6⟩:=aW k2;clear k1 k2 q1 q2 b1 b2 HB1;go_wp2_with fail
       refine(HO.out _).mono ?_;rintro _ w3 ⟨rfl,b3⟩;obtain⟨q1,q2⟩:=dj b3;have HB3:=aa (aq ((((HB.out.setCell (p:=⟨w.heap.size,0,none⟩) (by simp) (.int .i64 sx)).setCell (p:=⟨w.heap.size,1,none⟩) (by simp) (.int .i64 sy)).setCell (p:=⟨w.heap.size,2,none⟩) (by simp) (.int .i64 tx)).setCell (p:=⟨w.heap.size,3,none⟩) (by simp) (.int .i64 ty)) b3);have hz:=b3.size;simp only[World.size_setCell]at hz;have hz3:w.heap.size<w3.heap.size:=O9;have hz4:w.heap.size+1<w3.heap.size:=O9;clear b3 hz;go_wp2_with fail
       refine(HC1.out _).mono ?_;rintro _ w4 ⟨rfl,b4⟩;obtain⟨r1,r2⟩:=dj b4;have HB4:=aa (aq HB3.out b4);have hz:=b4.size;have hz5:w.heap.size<w4.heap.size:=O9;have hz6:w.heap.size+1<w4.heap.size:=O9;clear b4 hz;go_wp2_with fail;refine(HC2.out _).mono ?_;rintro _ w5 ⟨rfl,b5⟩;obtain⟨s1,s2⟩:=dj b5;have HB5:=aa (aq HB4.out b5);clear b5;go_wp2_with fail;go_ret;exact⟨ag (by rw[HR.out,ho,h3,h4];simp[h1,h2]),HB5.out⟩
    ·(have h2':decide (c2≤0)=false:=by simpa using h2);go_enter Tryz.func128,Tryz.ntmps128;go_wp2_with fail;refine(HN.out _ _ _ _ (by simp)).mono ?_;rintro _ w1 ⟨rfl,b1⟩;have q:=dj b1;obtain⟨q1,q2⟩:=q;go_wp2_with fail;refine(HS.out _).mono ?_;rintro _ w2 ⟨rfl,b2⟩;have HB1:=aa (aq (((Below.refl _ w).alloc (Nat.le_refl _) _).alloc (by simp) _) b1);have HB:=aa (aq HB1.out b2)
     have k1:w2.heap[w.heap.size]? =some (.cells #[.int .i64 ax,.int .i64 ay,.int .i64 bx,.int .i64 bY] 68 (0,0)):=ai b2 (ai (aq ((Below.refl _ _).alloc (Nat.le_refl _) _) b1) (cj _ _ _ rfl));have k2:w2.heap[w.heap.size+1]? =some (.cells #[.int .i64 cx,.int .i64 cy] 44 (0,0)):=ai b2 (ai b1 (cj _ _ _ (by simp)));have hz2:=lt_of_block k2;have hz1:w.heap.size<w2.heap.size:=O9;obtain⟨⟨e1,e2,e3,e4⟩,f1,f2,f3,f4⟩:=aE k1;obtain⟨⟨e5,e6⟩,f5,f6⟩:=aW k2;clear k1 k2 q1 q2 b1 b2 HB1;go_wp2_with fail
     refine(HO.out _).mono ?_;rintro _ w3 ⟨rfl,b3⟩;obtain⟨q1,q2⟩:=dj b3;have HB3:=aa (aq ((((HB.out.setCell (p:=⟨w.heap.size,0,none⟩) (by simp) (.int .i64 sx)).setCell (p:=⟨w.heap.size,1,none⟩) (by simp) (.int .i64 sy)).setCell (p:=⟨w.heap.size,2,none⟩) (by simp) (.int .i64 tx)).setCell (p:=⟨w.heap.size,3,none⟩) (by simp) (.int .i64 ty)) b3);have hz:=b3.size;simp only[World.size_setCell]at hz;have hz3:w.heap.size<w3.heap.size:=O9;have hz4:w.heap.size+1<w3.heap.size:=O9;clear b3 hz;go_wp2_with fail
     refine(HC1.out _).mono ?_;rintro _ w4 ⟨rfl,b4⟩;obtain⟨r1,r2⟩:=dj b4;have HB4:=aa (aq HB3.out b4);have hz:=b4.size;have hz5:w.heap.size<w4.heap.size:=O9;have hz6:w.heap.size+1<w4.heap.size:=O9;clear b4 hz;go_wp2_with fail;refine(HC2.out _).mono ?_;rintro _ w5 ⟨rfl,b5⟩;obtain⟨s1,s2⟩:=dj b5;have HB5:=aa (aq HB4.out b5);clear b5;go_wp2_with fail;go_ret;exact⟨ag (by rw[HR.out,ho,h2'];simp),HB5.out⟩
   ·(have h1':decide (c1≤0)=false:=by simpa using h1);go_enter Tryz.func128,Tryz.ntmps128;go_wp2_with fail;refine(HN.out _ _ _ _ (by simp)).mono ?_;rintro _ w1 ⟨rfl,b1⟩;have q:=dj b1;obtain⟨q1,q2⟩:=q;go_wp2_with fail;refine(HS.out _).mono ?_;rintro _ w2 ⟨rfl,b2⟩;have HB1:=aa (aq (((Below.refl _ w).alloc (Nat.le_refl _) _).alloc (by simp) _) b1);have HB:=aa (aq HB1.out b2)
    have k1:w2.heap[w.heap.size]? =some (.cells #[.int .i64 ax,.int .i64 ay,.int .i64 bx,.int .i64 bY] 68 (0,0)):=ai b2 (ai (aq ((Below.refl _ _).alloc (Nat.le_refl _) _) b1) (cj _ _ _ rfl));have k2:w2.heap[w.heap.size+1]? =some (.cells #[.int .i64 cx,.int .i64 cy] 44 (0,0)):=ai b2 (ai b1 (cj _ _ _ (by simp)));have hz2:=lt_of_block k2;have hz1:w.heap.size<w2.heap.size:=O9;obtain⟨⟨e1,e2,e3,e4⟩,f1,f2,f3,f4⟩:=aE k1;obtain⟨⟨e5,e6⟩,f5,f6⟩:=aW k2;clear k1 k2 q1 q2 b1 b2 HB1;go_wp2_with fail
    refine(HO.out _).mono ?_;rintro _ w3 ⟨rfl,b3⟩;obtain⟨q1,q2⟩:=dj b3;have HB3:=aa (aq ((((HB.out.setCell (p:=⟨w.heap.size,0,none⟩) (by simp) (.int .i64 sx)).setCell (p:=⟨w.heap.size,1,none⟩) (by simp) (.int .i64 sy)).setCell (p:=⟨w.heap.size,2,none⟩) (by simp) (.int .i64 tx)).setCell (p:=⟨w.heap.size,3,none⟩) (by simp) (.int .i64 ty)) b3);have hz:=b3.size;simp only[World.size_setCell]at hz;have hz3:w.heap.size<w3.heap.size:=O9;have hz4:w.heap.size+1<w3.heap.size:=O9;clear b3 hz;go_wp2_with fail
    refine(HC1.out _).mono ?_;rintro _ w4 ⟨rfl,b4⟩;obtain⟨r1,r2⟩:=dj b4;have HB4:=aa (aq HB3.out b4);have hz:=b4.size;have hz5:w.heap.size<w4.heap.size:=O9;have hz6:w.heap.size+1<w4.heap.size:=O9;clear b4 hz;go_wp2_with fail;go_ret;exact⟨ag (by rw[HR.out,ho,h1'];simp),HB4.out⟩
theorem ig{w:World}{g h:Nat}{o:Obj}(i:Nat)(u:Value)(hk:w.heap[g]? =some o)(hne:g≠h):(w.setCell ⟨h,i,none⟩ u).heap[g]? =some o:=(Below.heap_setCell w ⟨h,i,none⟩ u g hne).trans hk
theorem Je{w:World}{g:Nat}{a b:Value}{t:TypeId}(h:w.heap[g]? =some (.cells #[a,b] t (0,0)))(u v:Value):((w.setCell ⟨g,0,none⟩ u).setCell ⟨g,1,none⟩ v).heap[g]? =some (.cells #[u,v] t (0,0)):=by
 have hlt:=lt_of_block h;have h':w.heap[g]= .cells #[a,b] t (0,0):=by simpa[Array.getElem?_eq_getElem hlt]using h
 have e1:(w.setCell ⟨g,0,none⟩ u).heap[g]? =some (.cells #[u,b] t (0,0)):=by
  show(w.heap.modify g _)[g]? =_;rw[Array.getElem?_eq_getElem (by simpa using hlt),Array.getElem_modify_self,h'];rfl
 generalize w.setCell ⟨g,0,none⟩ u=w2 at e1;have hlt2:=lt_of_block e1;have h2':w2.heap[g]= .cells #[u,b] t (0,0):=by simpa[Array.getElem?_eq_getElem hlt2]using e1
 show(w2.heap.modify g _)[g]? =_;rw[Array.getElem?_eq_getElem (by simpa using hlt2),Array.getElem_modify_self,h2'];rfl
theorem Fk(ax ay bx bY cx cy:Int)(w:World):Calls Tryz.prog 77 #[.agg #[.int .i64 ax,.int .i64 ay,.int .i64 bx,.int .i64 bY],.agg #[.int .i64 cx,.int .i64 cy,.int .i64 cx,.int .i64 cy]] w fun e w'=>e= .returned (.int .i64 (mW ⟨cx,cy⟩ ⟨⟨ax,ay⟩,⟨bx,bY⟩⟩))∧Below w.heap.size w w':=by
 obtain⟨R,hR⟩:∃R,R=mW ⟨cx,cy⟩ ⟨⟨ax,ay⟩,⟨bx,bY⟩⟩:=⟨_,rfl⟩;rw[←hR];have HO:=aa (Bc ax ay bx bY cx cy);have e1:=fp ⟨cx,cy⟩ ⟨ax,ay⟩;have e2:=fp ⟨cx,cy⟩ ⟨bx,bY⟩;simp only at e1 e2;have hr:R=if eD ⟨⟨ax,ay⟩,⟨bx,bY⟩⟩ ⟨cx,cy⟩then (if (dO cx cy ax ay||dO cx cy bx bY)=true then 1 else 2)else 0:=by
  rw[hR,mW,e1,e2];simp
 generalize eD ⟨⟨ax,ay⟩,⟨bx,bY⟩⟩ ⟨cx,cy⟩=o at hr HO;have HR:=aa hr;clear hr hR e1 e2;have h0:dO cx cy cx cy=true:=by simp[dO]
 cases o with
 |false=>
  go_enter Tryz.func77,Tryz.ntmps77;go_wp2_with fail;refine(HO.out _).mono ?_;rintro _ w1 ⟨rfl,b1⟩;obtain⟨q1,q2⟩:=dj b1;have hz:=b1.size;simp only[World.size_alloc]at hz;have hz3:w.heap.size<w1.heap.size:=O9;have hz4:w.heap.size+1<w1.heap.size:=O9;clear hz;go_wp2_with fail;go_ret;exact⟨cW (by rw[HR.out];rfl),aq (((Below.refl _ _).alloc (Nat.le_refl _) _).alloc (by simp) _) b1⟩
 |true=>
  cases h1:dO cx cy ax ay with
  |true=>
   go_enter Tryz.func77,Tryz.ntmps77;go_wp2_with fail;refine(HO.out _).mono ?_;rintro _ w1 ⟨rfl,b1⟩;obtain⟨q1,q2⟩:=dj b1;have hz:=b1.size;simp only[World.size_alloc]at hz;have hz3:w.heap.size<w1.heap.size:=O9;have hz4:w.heap.size+1<w1.heap.size:=O9;clear hz;go_wp2_with fail;go_ret;exact⟨cW (by rw[HR.out,h1];rfl),aq (((Below.refl _ _).alloc (Nat.le_refl _) _).alloc (by simp) _) b1⟩
  |false=>
   cases h2:dO cx cy bx bY with
   |true=>
    go_enter Tryz.func77,Tryz.ntmps77;go_wp2_with fail;refine(HO.out _).mono ?_;rintro _ w1 ⟨rfl,b1⟩;obtain⟨q1,q2⟩:=dj b1;have hz:=b1.size;simp only[World.size_alloc]at hz;have hz3:w.heap.size<w1.heap.size:=O9;have hz4:w.heap.size+1<w1.heap.size:=O9;clear hz;go_wp2_with fail;go_ret;exact⟨cW (by rw[HR.out,h1,h2];rfl),aq (((Below.refl _ _).alloc (Nat.le_refl _) _).alloc (by simp) _) b1⟩
   |false=>
    go_enter Tryz.func77,Tryz.ntmps77;go_wp2_with fail;refine(HO.out _).mono ?_;rintro _ w1 ⟨rfl,b1⟩;obtain⟨q1,q2⟩:=dj b1;have hz:=b1.size;simp only[World.size_alloc]at hz;have hz3:w.heap.size<w1.heap.size:=O9;have hz4:w.heap.size+1<w1.heap.size:=O9;clear hz;go_wp2_with fail;go_ret;exact⟨cW (by rw[HR.out,h1,h2];rfl),aq (((Below.refl _ _).alloc (Nat.le_refl _) _).alloc (by simp) _) b1⟩
theorem Fl(ax ay cx cy dx dy:Int)(w:World)(ht:dO cx cy dx dy=false):Calls Tryz.prog 77 #[.agg #[.int .i64 ax,.int .i64 ay,.int .i64 ax,.int .i64 ay],.agg #[.int .i64 cx,.int .i64 cy,.int .i64 dx,.int .i64 dy]] w fun e w'=>e= .returned (.int .i64 (mW ⟨ax,ay⟩ ⟨⟨cx,cy⟩,⟨dx,dy⟩⟩))∧Below w.heap.size w w':=by
 obtain⟨R,hR⟩:∃R,R=mW ⟨ax,ay⟩ ⟨⟨cx,cy⟩,⟨dx,dy⟩⟩:=⟨_,rfl⟩;rw[←hR];have HO:=aa (Bc cx cy dx dy ax ay);have e1:=fp ⟨ax,ay⟩ ⟨cx,cy⟩;have e2:=fp ⟨ax,ay⟩ ⟨dx,dy⟩;simp only at e1 e2;have hr:R=if eD ⟨⟨cx,cy⟩,⟨dx,dy⟩⟩ ⟨ax,ay⟩then (if (dO ax ay cx cy||dO ax ay dx dy)=true then 1 else 2)else 0:=by
  rw[hR,mW,e1,e2];simp
 generalize eD ⟨⟨cx,cy⟩,⟨dx,dy⟩⟩ ⟨ax,ay⟩=o at hr HO;have HR:=aa hr;clear hr hR e1 e2;have h0:dO ax ay ax ay=true:=by simp[dO]
 cases o with
 |false=>
  go_enter Tryz.func77,Tryz.ntmps77;go_wp2_with fail;refine(HO.out _).mono ?_;rintro _ w1 ⟨rfl,b1⟩;obtain⟨q1,q2⟩:=dj b1;have hz:=b1.size;simp only[World.size_alloc]at hz;have hz3:w.heap.size<w1.heap.size:=O9;have hz4:w.heap.size+1<w1.heap.size:=O9;clear hz;go_wp2_with fail;go_ret;exact⟨cW (by rw[HR.out];rfl),aq (((Below.refl _ _).alloc (Nat.le_refl _) _).alloc (by simp) _) b1⟩
 |true=>
  cases h1:dO ax ay cx cy with
  |true=>
   go_enter Tryz.func77,Tryz.ntmps77;go_wp2_with fail;refine(HO.out _).mono ?_;rintro _ w1 ⟨rfl,b1⟩;obtain⟨q1,q2⟩:=dj b1;have hz:=b1.size;simp only[World.size_alloc]at hz;have hz3:w.heap.size<w1.heap.size:=O9;have hz4:w.heap.size+1<w1.heap.size:=O9;clear hz;go_wp2_with fail;go_ret;exact⟨cW (by rw[HR.out,h1];rfl),aq (((Below.refl _ _).alloc (Nat.le_refl _) _).alloc (by simp) _) b1⟩
  |false=>
   cases h2:dO ax ay dx dy with
   |true=>
    go_enter Tryz.func77,Tryz.ntmps77;go_wp2_with fail;refine(HO.out _).mono ?_;rintro _ w1 ⟨rfl,b1⟩;obtain⟨q1,q2⟩:=dj b1;have hz:=b1.size;simp only[World.size_alloc]at hz;have hz3:w.heap.size<w1.heap.size:=O9;have hz4:w.heap.size+1<w1.heap.size:=O9;clear hz;go_wp2_with fail;go_ret;exact⟨cW (by rw[HR.out,h1,h2];rfl),aq (((Below.refl _ _).alloc (Nat.le_refl _) _).alloc (by simp) _) b1⟩
   |false=>
    go_enter Tryz.func77,Tryz.ntmps77;go_wp2_with fail;refine(HO.out _).mono ?_;rintro _ w1 ⟨rfl,b1⟩;obtain⟨q1,q2⟩:=dj b1;have hz:=b1.size;simp only[World.size_alloc]at hz;have hz3:w.heap.size<w1.heap.size:=O9;have hz4:w.heap.size+1<w1.heap.size:=O9;clear hz;go_wp2_with fail;go_ret;exact⟨cW (by rw[HR.out,h1,h2];rfl),aq (((Below.refl _ _).alloc (Nat.le_refl _) _).alloc (by simp) _) b1⟩
structure Gc(w wx:World)(gl gh:Nat)(lx ly hx hy ax ay bx bY cx cy dx dy:Int):Prop where
 l:wx.heap[gl]? =some (.cells #[.int .i64 lx,.int .i64 ly] 44 (0,0))
 h:wx.heap[gh]? =some (.cells #[.int .i64 hx,.int .i64 hy] 44 (0,0))
 a:wx.heap[w.heap.size]? =some (.cells #[.int .i64 ax,.int .i64 ay,.int .i64 bx,.int .i64 bY] 68 (0,0))
 b:wx.heap[w.heap.size+1]? =some (.cells #[.int .i64 cx,.int .i64 cy,.int .i64 dx,.int .i64 dy] 68 (0,0))
 below:Below w.heap.size w wx
 ne:gl≠gh
 gl2:w.heap.size+2≤gl
 gh2:w.heap.size+2≤gh
theorem Gc.lift{w wx wy:World}{gl gh:Nat}{lx ly hx hy ax ay bx bY cx cy dx dy:Int}(h:Gc w wx gl gh lx ly hx hy ax ay bx bY cx cy dx dy)(hb:Below wx.heap.size wx wy):Gc w wy gl gh lx ly hx hy ax ay bx bY cx cy dx dy:=
 ⟨ai hb h.l,ai hb h.h,ai hb h.a,ai hb h.b,aq h.below hb,h.ne,h.gl2,h.gh2⟩
theorem Gc.setL{w wx:World}{gl gh:Nat}{lx ly hx hy ax ay bx bY cx cy dx dy:Int}(h:Gc w wx gl gh lx ly hx hy ax ay bx bY cx cy dx dy)(u v:Int):Gc w ((wx.setCell ⟨gl,0,none⟩ (.int .i64 u)).setCell ⟨gl,1,none⟩ (.int .i64 v)) gl gh u v hx hy ax ay bx bY cx cy dx dy:=by
 have h1:=h.gl2;have h2:=h.ne;exact⟨Je h.l _ _,ig _ _ (ig _ _ h.h O9) O9,ig _ _ (ig _ _ h.a O9) O9,ig _ _ (ig _ _ h.b O9) O9,(h.below.setCell (by simp;omega) _).setCell (by simp;omega) _,h.ne,h.gl2,h.gh2⟩
theorem Gc.setH{w wx:World}{gl gh:Nat}{lx ly hx hy ax ay bx bY cx cy dx dy:Int}(h:Gc w wx gl gh lx ly hx hy ax ay bx bY cx cy dx dy)(u v:Int):Gc w ((wx.setCell ⟨gh,0,none⟩ (.int .i64 u)).setCell ⟨gh,1,none⟩ (.int .i64 v)) gl gh lx ly u v ax ay bx bY cx cy dx dy:=by
 have h1:=h.gh2;have h2:=h.ne;exact⟨ig _ _ (ig _ _ h.l O9) O9,Je h.h _ _,ig _ _ (ig _ _ h.a O9) O9,ig _ _ (ig _ _ h.b O9) O9,(h.below.setCell (by simp;omega) _).setCell (by simp;omega) _,h.ne,h.gl2,h.gh2⟩
theorem Fm(ax ay bx bY cx cy dx dy:Int)(w:World)(h1:dO cx cy dx dy=false)(h2:dO ax ay bx bY=false):Calls Tryz.prog 77 #[.agg #[.int .i64 ax,.int .i64 ay,.int .i64 bx,.int .i64 bY],.agg #[.int .i64 cx,.int .i64 cy,.int .i64 dx,.int .i64 dy]] w fun e w'=>e= .returned (.int .i64 (fG (aN (fB ⟨⟨ax,ay⟩,⟨bx,bY⟩⟩ ⟨⟨cx,cy⟩,⟨dx,dy⟩⟩) (di ⟨⟨ax,ay⟩,⟨bx,bY⟩⟩ ⟨⟨cx,cy⟩,⟨dx,dy⟩⟩))))∧Below w.heap.size w w':=by
 obtain⟨R,hR⟩:∃R,R=fG (aN (fB ⟨⟨ax,ay⟩,⟨bx,bY⟩⟩ ⟨⟨cx,cy⟩,⟨dx,dy⟩⟩) (di ⟨⟨ax,ay⟩,⟨bx,bY⟩⟩ ⟨⟨cx,cy⟩,⟨dx,dy⟩⟩)):=⟨_,rfl⟩;rw[←hR];simp only[fB,di]at hR;have HC1:=aa (dD cx cy ax ay);have HC2:=aa (dD dx dy bx bY);generalize aN ⟨cx,cy⟩ ⟨ax,ay⟩=c1 at hR HC1;generalize aN ⟨dx,dy⟩ ⟨bx,bY⟩=c2 at hR HC2;have HR:=aa hR;clear hR;go_enter Tryz.func77,Tryz.ntmps77;go_upto_region 9 with(fail)
 go_cut [5,6] (fun s5 s6 wx=>∃gl gh:Nat,s5= .pointer (some ⟨gl,0,none⟩)∧s6= .pointer (some ⟨gh,0,none⟩)∧Hid (Gc w wx gl gh ax ay bx bY ax ay bx bY cx cy dx dy))
 case first=>
  go_region
  all_goals (go_wp2_with fail;go_meet)
  ·exact⟨w.heap.size+1+1,w.heap.size+1+1+1,rfl,rfl,⟨dU _ (cj _ _ _ (by simp)),cj _ _ _ (by simp),dU _ (dU _ (dU _ (cj _ _ _ rfl))),dU _ (dU _ (cj _ _ _ (by simp))),((((Below.refl _ _).alloc (Nat.le_refl _) _).alloc (by simp) _).alloc (by simp;omega) _).alloc (by simp;omega) _ |>.drew,O9,O9,O9⟩⟩
  ·exact⟨w.heap.size+1+1+1,w.heap.size+1+1,rfl,rfl,⟨cj _ _ _ (by simp),dU _ (cj _ _ _ (by simp)),dU _ (dU _ (dU _ (cj _ _ _ rfl))),dU _ (dU _ (cj _ _ _ (by simp))),((((Below.refl _ _).alloc (Nat.le_refl _) _).alloc (by simp) _).alloc (by simp;omega) _).alloc (by simp;omega) _ |>.drew,O9,O9,O9⟩⟩
 case rest=>
  obtain⟨gl,gh,rfl,rfl,H0⟩:=hcut;have n1:=H0.out.ne;have n2:=H0.out.gl2;have n3:=H0.out.gh2;have n4:gl≠w.heap.size:=O9;have n5:gl≠w.heap.size+1:=O9;have n6:gh≠w.heap.size:=O9;have n7:gh≠w.heap.size+1:=O9;have n8:gh≠gl:=O9;clear h1 h2;by_cases g1:0<c1
  ·by_cases g2:c2<0
   ·have HC3:=aa (dD cx cy dx dy);have hc3:=eP ⟨cx,cy⟩ ⟨dx,dy⟩;(have hr:R=fG (aN ⟨cx,cy⟩ ⟨dx,dy⟩):=by rw[HR.out];simp[g1,g2]);generalize aN ⟨cx,cy⟩ ⟨dx,dy⟩=c3 at HC3 hc3 hr;have HR3:=aa hr;clear hr;obtain⟨⟨a1,a2⟩,a3,a4⟩:=aW (H0.out).l;obtain⟨⟨b1,b2⟩,b3,b4⟩:=aW (H0.out).h;obtain⟨⟨d1,d2,d3,d4⟩,d5,d6,d7,d8⟩:=aE (H0.out).b;go_wp2_with fail;refine(HC1.out _).mono ?_;rintro _ w1 ⟨rfl,q1⟩;have H1:=aa (H0.out.lift q1);clear a1 a2 a3 a4 b1 b2 b3 b4 d1 d2 d3 d4 d5 d6 d7 d8
    obtain⟨⟨a1,a2⟩,a3,a4⟩:=aW (H1.out).l;obtain⟨⟨b1,b2⟩,b3,b4⟩:=aW (H1.out).h;obtain⟨⟨d1,d2,d3,d4⟩,d5,d6,d7,d8⟩:=aE (H1.out).b;clear q1;go_wp2_with fail;refine(HC2.out _).mono ?_;rintro _ w2 ⟨rfl,q2⟩;have H2:=aa ((H1.out.setL cx cy).lift q2);clear a1 a2 a3 a4 b1 b2 b3 b4 d1 d2 d3 d4 d5 d6 d7 d8;obtain⟨⟨a1,a2⟩,a3,a4⟩:=aW (H2.out).l;obtain⟨⟨b1,b2⟩,b3,b4⟩:=aW (H2.out).h;obtain⟨⟨d1,d2,d3,d4⟩,d5,d6,d7,d8⟩:=aE (H2.out).b;clear q2;go_wp2_with fail;refine(HC3.out _).mono ?_;rintro _ w3 ⟨rfl,q3⟩
    have H3:=aa ((H2.out.setH dx dy).lift q3);clear a1 a2 a3 a4 b1 b2 b3 b4 d1 d2 d3 d4 d5 d6 d7 d8;clear q3;rcases hc3 with rfl|rfl|rfl
    all_goals
     go_wp2_with fail;go_ret;exact⟨cW (by rw[HR3.out];rfl),H3.out.below⟩
   ·have HC3:=aa (dD cx cy bx bY);have hc3:=eP ⟨cx,cy⟩ ⟨bx,bY⟩;(have hr:R=fG (aN ⟨cx,cy⟩ ⟨bx,bY⟩):=by rw[HR.out];simp[g1,g2]);generalize aN ⟨cx,cy⟩ ⟨bx,bY⟩=c3 at HC3 hc3 hr;have HR3:=aa hr;clear hr;obtain⟨⟨a1,a2⟩,a3,a4⟩:=aW (H0.out).l;obtain⟨⟨b1,b2⟩,b3,b4⟩:=aW (H0.out).h;obtain⟨⟨d1,d2,d3,d4⟩,d5,d6,d7,d8⟩:=aE (H0.out).b;go_wp2_with fail;refine(HC1.out _).mono ?_;rintro _ w1 ⟨rfl,q1⟩;have H1:=aa (H0.out.lift q1);clear a1 a2 a3 a4 b1 b2 b3 b4 d1 d2 d3 d4 d5 d6 d7 d8
    obtain⟨⟨a1,a2⟩,a3,a4⟩:=aW (H1.out).l;obtain⟨⟨b1,b2⟩,b3,b4⟩:=aW (H1.out).h;obtain⟨⟨d1,d2,d3,d4⟩,d5,d6,d7,d8⟩:=aE (H1.out).b;clear q1;go_wp2_with fail;refine(HC2.out _).mono ?_;rintro _ w2 ⟨rfl,q2⟩;have H2:=aa ((H1.out.setL cx cy).lift q2);clear a1 a2 a3 a4 b1 b2 b3 b4 d1 d2 d3 d4 d5 d6 d7 d8;obtain⟨⟨a1,a2⟩,a3,a4⟩:=aW (H2.out).l;obtain⟨⟨b1,b2⟩,b3,b4⟩:=aW (H2.out).h;obtain⟨⟨d1,d2,d3,d4⟩,d5,d6,d7,d8⟩:=aE (H2.out).b;clear q2;go_wp2_with fail;refine(HC3.out _).mono ?_;rintro _ w3 ⟨rfl,q3⟩
    have H3:=aa (H2.out.lift q3);clear a1 a2 a3 a4 b1 b2 b3 b4 d1 d2 d3 d4 d5 d6 d7 d8;clear q3;rcases hc3 with rfl|rfl|rfl
    all_goals
     go_wp2_with fail;go_ret;exact⟨cW (by rw[HR3.out];rfl),H3.out.below⟩
  ·by_cases g2:c2<0
   ·have HC3:=aa (dD ax ay dx dy);have hc3:=eP ⟨ax,ay⟩ ⟨dx,dy⟩;(have hr:R=fG (aN ⟨ax,ay⟩ ⟨dx,dy⟩):=by rw[HR.out];simp[g1,g2]);generalize aN ⟨ax,ay⟩ ⟨dx,dy⟩=c3 at HC3 hc3 hr;have HR3:=aa hr;clear hr;obtain⟨⟨a1,a2⟩,a3,a4⟩:=aW (H0.out).l;obtain⟨⟨b1,b2⟩,b3,b4⟩:=aW (H0.out).h;obtain⟨⟨d1,d2,d3,d4⟩,d5,d6,d7,d8⟩:=aE (H0.out).b;go_wp2_with fail;refine(HC1.out _).mono ?_;rintro _ w1 ⟨rfl,q1⟩;have H1:=aa (H0.out.lift q1);clear a1 a2 a3 a4 b1 b2 b3 b4 d1 d2 d3 d4 d5 d6 d7 d8
    obtain⟨⟨a1,a2⟩,a3,a4⟩:=aW (H1.out).l;obtain⟨⟨b1,b2⟩,b3,b4⟩:=aW (H1.out).h;obtain⟨⟨d1,d2,d3,d4⟩,d5,d6,d7,d8⟩:=aE (H1.out).b;clear q1;go_wp2_with fail;refine(HC2.out _).mono ?_;rintro _ w2 ⟨rfl,q2⟩;have H2:=aa (H1.out.lift q2);clear a1 a2 a3 a4 b1 b2 b3 b4 d1 d2 d3 d4 d5 d6 d7 d8;obtain⟨⟨a1,a2⟩,a3,a4⟩:=aW (H2.out).l;obtain⟨⟨b1,b2⟩,b3,b4⟩:=aW (H2.out).h;obtain⟨⟨d1,d2,d3,d4⟩,d5,d6,d7,d8⟩:=aE (H2.out).b;clear q2;go_wp2_with fail;refine(HC3.out _).mono ?_;rintro _ w3 ⟨rfl,q3⟩
    have H3:=aa ((H2.out.setH dx dy).lift q3);clear a1 a2 a3 a4 b1 b2 b3 b4 d1 d2 d3 d4 d5 d6 d7 d8;clear q3;rcases hc3 with rfl|rfl|rfl
    all_goals
     go_wp2_with fail;go_ret;exact⟨cW (by rw[HR3.out];rfl),H3.out.below⟩
   ·have HC3:=aa (dD ax ay bx bY);have hc3:=eP ⟨ax,ay⟩ ⟨bx,bY⟩;(have hr:R=fG (aN ⟨ax,ay⟩ ⟨bx,bY⟩):=by rw[HR.out];simp[g1,g2]);generalize aN ⟨ax,ay⟩ ⟨bx,bY⟩=c3 at HC3 hc3 hr;have HR3:=aa hr;clear hr;obtain⟨⟨a1,a2⟩,a3,a4⟩:=aW (H0.out).l;obtain⟨⟨b1,b2⟩,b3,b4⟩:=aW (H0.out).h;obtain⟨⟨d1,d2,d3,d4⟩,d5,d6,d7,d8⟩:=aE (H0.out).b;go_wp2_with fail;refine(HC1.out _).mono ?_;rintro _ w1 ⟨rfl,q1⟩;have H1:=aa (H0.out.lift q1);clear a1 a2 a3 a4 b1 b2 b3 b4 d1 d2 d3 d4 d5 d6 d7 d8
    obtain⟨⟨a1,a2⟩,a3,a4⟩:=aW (H1.out).l;obtain⟨⟨b1,b2⟩,b3,b4⟩:=aW (H1.out).h;obtain⟨⟨d1,d2,d3,d4⟩,d5,d6,d7,d8⟩:=aE (H1.out).b;clear q1;go_wp2_with fail;refine(HC2.out _).mono ?_;rintro _ w2 ⟨rfl,q2⟩;have H2:=aa (H1.out.lift q2);clear a1 a2 a3 a4 b1 b2 b3 b4 d1 d2 d3 d4 d5 d6 d7 d8;obtain⟨⟨a1,a2⟩,a3,a4⟩:=aW (H2.out).l;obtain⟨⟨b1,b2⟩,b3,b4⟩:=aW (H2.out).h;obtain⟨⟨d1,d2,d3,d4⟩,d5,d6,d7,d8⟩:=aE (H2.out).b;clear q2;go_wp2_with fail;refine(HC3.out _).mono ?_;rintro _ w3 ⟨rfl,q3⟩
    have H3:=aa (H2.out.lift q3);clear a1 a2 a3 a4 b1 b2 b3 b4 d1 d2 d3 d4 d5 d6 d7 d8;clear q3;rcases hc3 with rfl|rfl|rfl
    all_goals
     go_wp2_with fail;go_ret;exact⟨cW (by rw[HR3.out];rfl),H3.out.below⟩
