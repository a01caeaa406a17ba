/-
  Meets of the geometry, walked.
-/
import Derived.Test.YtfkgjbdeicggaaaGreatZT
import Derived.Test.YtfkgjbdeicggaaaGreatZU
set_option maxHeartbeats 4000000
set_option maxRecDepth 100000
namespace Go.Proofs.YtfkgjbdeicggaaaGreat
open Go.RowKit Go.Proofs.Pg
theorem mL(ax ay bx bY cx cy dx dy:Int)(w:World):
  Calls Tryz.prog 77 #[.agg #[.int .i64 ax,.int .i64 ay,.int .i64 bx,.int .i64 bY],.agg #[.int .i64 cx,.int .i64 cy,.int .i64 dx,.int .i64 dy]] w fun e w'=>
   e= .returned (.int .i64 (dc ⟨⟨ax,ay⟩,⟨bx,bY⟩⟩ ⟨⟨cx,cy⟩,⟨dx,dy⟩⟩))∧Below w.heap.size w w':=by
 have e1:=fp ⟨cx,cy⟩ ⟨dx,dy⟩;have e2:=fp ⟨ax,ay⟩ ⟨bx,bY⟩;simp only at e1 e2;unfold dc;by_cases h1:(⟨cx,cy⟩:Pt)=⟨dx,dy⟩
 ·rw[if_pos h1];cases h1;exact Fk ax ay bx bY cx cy w
 ·rw[if_neg h1];by_cases h2:(⟨ax,ay⟩:Pt)=⟨bx,bY⟩
  ·rw[if_pos h2];cases h2;exact Fl ax ay cx cy dx dy w (by rw[e1];simpa using h1)
  ·rw[if_neg h2];exact Fm ax ay bx bY cx cy dx dy w (by rw[e1];simpa using h1) (by rw[e2];simpa using h2)
theorem Jf{w:World}{g:Nat}{a b c d:Value}{t:TypeId}(h:w.heap[g]? =some (.cells #[a,b,c,d] t (0,0)))(a' b' c' d':Value):((((w.setCell ⟨g,0,none⟩ a').setCell ⟨g,1,none⟩ b').setCell ⟨g,2,none⟩ c').setCell ⟨g,3,none⟩ d').heap[g]? =some (.cells #[a',b',c',d'] t (0,0)):=by
 have key:∀(w:World)(cs:Array Value)(i:Nat)(u:Value),w.heap[g]? =some (.cells cs t (0,0))→(w.setCell ⟨g,i,none⟩ u).heap[g]? =some (.cells (cs.set! i u) t (0,0)):=by
  intro w cs i u h;have hlt:=lt_of_block h;have h':w.heap[g]= .cells cs t (0,0):=by simpa[Array.getElem?_eq_getElem hlt]using h
  show(w.heap.modify g _)[g]? =_;rw[Array.getElem?_eq_getElem (by simpa using hlt),Array.getElem_modify_self,h'];rfl
 exact key _ _ 3 d' (key _ _ 2 c' (key _ _ 1 b' (key _ _ 0 a' h)))
structure MB(w wx:World)(ax ay bx bY cx cy dx dy:Int):Prop where
 a:wx.heap[w.heap.size]? =some (.cells #[.int .i64 ax,.int .i64 ay,.int .i64 bx,.int .i64 bY] 68 (0,0))
 b:wx.heap[w.heap.size+1]? =some (.cells #[.int .i64 cx,.int .i64 cy,.int .i64 dx,.int .i64 dy] 68 (0,0))
 below:Below w.heap.size w wx
theorem MB.lift{w wx wy:World}{ax ay bx bY cx cy dx dy:Int}(h:MB w wx ax ay bx bY cx cy dx dy)(hb:Below wx.heap.size wx wy):MB w wy ax ay bx bY cx cy dx dy:=⟨ai hb h.a,ai hb h.b,aq h.below hb⟩
theorem MB.drew{w wx:World}{ax ay bx bY cx cy dx dy:Int}(h:MB w wx ax ay bx bY cx cy dx dy):MB w wx.drew ax ay bx bY cx cy dx dy:=⟨h.a,h.b,h.below.drew⟩
theorem MB.set{w wx:World}{ax ay bx bY cx cy dx dy:Int}(h:MB w wx ax ay bx bY cx cy dx dy)(p q r s p' q' r' s':Int):MB w ((((((((wx.setCell ⟨w.heap.size,0,none⟩ (.int .i64 p)).setCell ⟨w.heap.size,1,none⟩ (.int .i64 q)).setCell ⟨w.heap.size,2,none⟩ (.int .i64 r)).setCell ⟨w.heap.size,3,none⟩ (.int .i64 s)).setCell ⟨w.heap.size+1,0,none⟩ (.int .i64 p')).setCell ⟨w.heap.size+1,1,none⟩ (.int .i64 q')).setCell ⟨w.heap.size+1,2,none⟩ (.int .i64 r')).setCell ⟨w.heap.size+1,3,none⟩ (.int .i64 s')) p q r s p' q' r' s':=
 ⟨ig _ _ (ig _ _ (ig _ _ (ig _ _ (Jf h.a _ _ _ _) O9) O9) O9) O9,
 Jf (ig _ _ (ig _ _ (ig _ _ (ig _ _ h.b O9) O9) O9) O9) _ _ _ _,
 (((((((h.below.setCell (by simp) _).setCell (by simp) _).setCell (by simp) _).setCell (by simp) _).setCell (by simp) _).setCell (by simp) _).setCell (by simp) _).setCell (by simp) _⟩
theorem meets_same(ax ay bx bY cx cy dx dy sx sy ux uy tx ty vx vy:Int)(w:World)(hn:aD [⟨ax,ay⟩,⟨bx,bY⟩,⟨cx,cy⟩,⟨dx,dy⟩]=true)(hs:aO ⟨⟨ax,ay⟩,⟨bx,bY⟩⟩=⟨⟨sx,sy⟩,⟨ux,uy⟩⟩)(ht:aO ⟨⟨cx,cy⟩,⟨dx,dy⟩⟩=⟨⟨tx,ty⟩,⟨vx,vy⟩⟩)
  (h0:qc sx sy ux uy tx ty vx vy=true):
  Calls Tryz.prog 25 #[.agg #[.int .i64 ax,.int .i64 ay,.int .i64 bx,.int .i64 bY],.agg #[.int .i64 cx,.int .i64 cy,.int .i64 dx,.int .i64 dy]] w fun e w'=>e= .returned (.int .i64 (4))∧Below w.heap.size w w':=by
 have HN:=aa (p9 ax ay bx bY cx cy dx dy true hn);have HS1:=aa (cJ ax ay bx bY);have HS2:=aa (cJ cx cy dx dy);rw[hs]at HS1;rw[ht]at HS2;unfold vS at HS1 HS2;clear hn hs ht;go_enter Tryz.func25,Tryz.ntmps25;go_wp2_with fail;refine(HN.out _ _ _ _ (by simp)).mono ?_;rintro _ w1 ⟨rfl,b1⟩;have hm:MB w w1 ax ay bx bY cx cy dx dy:=⟨ai b1 (dU _ (cj _ _ _ rfl)),ai b1 (cj _ _ _ (by simp)),aq (((Below.refl _ _).alloc (Nat.le_refl _) _).alloc (by simp) _) b1⟩;obtain⟨⟨a1,a2,a3,a4⟩,a5,a6,a7,a8⟩:=aE hm.a
 obtain⟨⟨c1,c2,c3,c4⟩,c5,c6,c7,c8⟩:=aE hm.b;have hz1:=lt_of_block hm.a;have hz2:=lt_of_block hm.b;clear b1;go_upto_region 3 with(fail);go_cut [] (fun wx=>MB w wx sx sy ux uy tx ty vx vy)
 case first=>
  go_region_with (first
   |(go_at_call 75;(with_reducible refine(HS1.out _).mono ?_);rintro _ w2 ⟨rfl,b2⟩;first|(have hm2:=hm.drew.lift b2;(obtain⟨⟨d1,d2,d3,d4⟩,d5,d6,d7,d8⟩:=aE hm2.a);(obtain⟨⟨e1,e2,e3,e4⟩,e5,e6,e7,e8⟩:=aE hm2.b))|(have hm2:=hm3.lift b2;(obtain⟨⟨d1,d2,d3,d4⟩,d5,d6,d7,d8⟩:=aE hm2.a);(obtain⟨⟨e1,e2,e3,e4⟩,e5,e6,e7,e8⟩:=aE hm2.b)))
   |(go_at_call 75;(with_reducible refine(HS2.out _).mono ?_);rintro _ w3 ⟨rfl,b3⟩;first|(have hm3:=hm.drew.lift b3;(obtain⟨⟨f1,f2,f3,f4⟩,f5,f6,f7,f8⟩:=aE hm3.a);(obtain⟨⟨g1,g2,g3,g4⟩,g5,g6,g7,g8⟩:=aE hm3.b))|(have hm3:=hm2.lift b3;(obtain⟨⟨f1,f2,f3,f4⟩,f5,f6,f7,f8⟩:=aE hm3.a);(obtain⟨⟨g1,g2,g3,g4⟩,g5,g6,g7,g8⟩:=aE hm3.b))))
  all_goals (go_wp2_with fail;go_meet;first|exact hm3.set _ _ _ _ _ _ _ _|exact hm2.set _ _ _ _ _ _ _ _)
 case rest=>
  clear hm a1 a2 a3 a4 a5 a6 a7 a8 c1 c2 c3 c4 c5 c6 c7 c8 hz1 hz2 HS1 HS2 HN;have hm:=hcut;clear hcut;obtain⟨⟨d1,d2,d3,d4⟩,d5,d6,d7,d8⟩:=aE hm.a;obtain⟨⟨e1,e2,e3,e4⟩,e5,e6,e7,e8⟩:=aE hm.b;go_wp2_with fail;go_ret;exact⟨rfl,hm.below⟩
theorem CB(ax ay bx bY cx cy dx dy sx sy ux uy tx ty vx vy:Int)(w:World)(hn:aD [⟨ax,ay⟩,⟨bx,bY⟩,⟨cx,cy⟩,⟨dx,dy⟩]=true)(hs:aO ⟨⟨ax,ay⟩,⟨bx,bY⟩⟩=⟨⟨sx,sy⟩,⟨ux,uy⟩⟩)(ht:aO ⟨⟨cx,cy⟩,⟨dx,dy⟩⟩=⟨⟨tx,ty⟩,⟨vx,vy⟩⟩)
  (h0:qc sx sy ux uy tx ty vx vy=false)(h1:dO sx sy ux uy=true):
  Calls Tryz.prog 25 #[.agg #[.int .i64 ax,.int .i64 ay,.int .i64 bx,.int .i64 bY],.agg #[.int .i64 cx,.int .i64 cy,.int .i64 dx,.int .i64 dy]] w fun e w'=>e= .returned (.int .i64 (dc ⟨⟨sx,sy⟩,⟨ux,uy⟩⟩ ⟨⟨tx,ty⟩,⟨vx,vy⟩⟩))∧Below w.heap.size w w':=by
 have HL:=aa (mL sx sy ux uy tx ty vx vy);obtain⟨R,hR⟩:∃R,R=dc ⟨⟨sx,sy⟩,⟨ux,uy⟩⟩ ⟨⟨tx,ty⟩,⟨vx,vy⟩⟩:=⟨_,rfl⟩;rw[←hR]at HL ⊢;clear hR;have HN:=aa (p9 ax ay bx bY cx cy dx dy true hn);have HS1:=aa (cJ ax ay bx bY);have HS2:=aa (cJ cx cy dx dy);rw[hs]at HS1;rw[ht]at HS2;unfold vS at HS1 HS2;clear hn hs ht;go_enter Tryz.func25,Tryz.ntmps25;go_wp2_with fail;refine(HN.out _ _ _ _ (by simp)).mono ?_;rintro _ w1 ⟨rfl,b1⟩
 have hm:MB w w1 ax ay bx bY cx cy dx dy:=⟨ai b1 (dU _ (cj _ _ _ rfl)),ai b1 (cj _ _ _ (by simp)),aq (((Below.refl _ _).alloc (Nat.le_refl _) _).alloc (by simp) _) b1⟩;obtain⟨⟨a1,a2,a3,a4⟩,a5,a6,a7,a8⟩:=aE hm.a;obtain⟨⟨c1,c2,c3,c4⟩,c5,c6,c7,c8⟩:=aE hm.b;have hz1:=lt_of_block hm.a;have hz2:=lt_of_block hm.b;clear b1;go_upto_region 3 with(fail);go_cut [] (fun wx=>MB w wx sx sy ux uy tx ty vx vy)
 case first=>
  go_region_with (first
   |(go_at_call 75;(with_reducible refine(HS1.out _).mono ?_);rintro _ w2 ⟨rfl,b2⟩;first|(have hm2:=hm.drew.lift b2;(obtain⟨⟨d1,d2,d3,d4⟩,d5,d6,d7,d8⟩:=aE hm2.a);(obtain⟨⟨e1,e2,e3,e4⟩,e5,e6,e7,e8⟩:=aE hm2.b))|(have hm2:=hm3.lift b2;(obtain⟨⟨d1,d2,d3,d4⟩,d5,d6,d7,d8⟩:=aE hm2.a);(obtain⟨⟨e1,e2,e3,e4⟩,e5,e6,e7,e8⟩:=aE hm2.b)))
   |(go_at_call 75;(with_reducible refine(HS2.out _).mono ?_);rintro _ w3 ⟨rfl,b3⟩;first|(have hm3:=hm.drew.lift b3;(obtain⟨⟨f1,f2,f3,f4⟩,f5,f6,f7,f8⟩:=aE hm3.a);(obtain⟨⟨g1,g2,g3,g4⟩,g5,g6,g7,g8⟩:=aE hm3.b))|(have hm3:=hm2.lift b3;(obtain⟨⟨f1,f2,f3,f4⟩,f5,f6,f7,f8⟩:=aE hm3.a);(obtain⟨⟨g1,g2,g3,g4⟩,g5,g6,g7,g8⟩:=aE hm3.b))))
  all_goals (go_wp2_with fail;go_meet;first|exact hm3.set _ _ _ _ _ _ _ _|exact hm2.set _ _ _ _ _ _ _ _)
 case rest=>
  clear hm a1 a2 a3 a4 a5 a6 a7 a8 c1 c2 c3 c4 c5 c6 c7 c8 hz1 hz2 HS1 HS2 HN;have hm:=hcut;clear hcut;obtain⟨⟨d1,d2,d3,d4⟩,d5,d6,d7,d8⟩:=aE hm.a;obtain⟨⟨e1,e2,e3,e4⟩,e5,e6,e7,e8⟩:=aE hm.b;go_wp2_with fail;refine(HL.out _).mono ?_;rintro _ w9 ⟨rfl,b9⟩;go_wp2_with fail;go_ret;exact⟨rfl,(hm.lift b9).below⟩
theorem CC(ax ay bx bY cx cy dx dy sx sy ux uy tx ty vx vy:Int)(w:World)(hn:aD [⟨ax,ay⟩,⟨bx,bY⟩,⟨cx,cy⟩,⟨dx,dy⟩]=true)(hs:aO ⟨⟨ax,ay⟩,⟨bx,bY⟩⟩=⟨⟨sx,sy⟩,⟨ux,uy⟩⟩)(ht:aO ⟨⟨cx,cy⟩,⟨dx,dy⟩⟩=⟨⟨tx,ty⟩,⟨vx,vy⟩⟩)
  (h0:qc sx sy ux uy tx ty vx vy=false)(h1:dO sx sy ux uy=false)(h2:dO tx ty vx vy=true):
  Calls Tryz.prog 25 #[.agg #[.int .i64 ax,.int .i64 ay,.int .i64 bx,.int .i64 bY],.agg #[.int .i64 cx,.int .i64 cy,.int .i64 dx,.int .i64 dy]] w fun e w'=>e= .returned (.int .i64 (dc ⟨⟨sx,sy⟩,⟨ux,uy⟩⟩ ⟨⟨tx,ty⟩,⟨vx,vy⟩⟩))∧Below w.heap.size w w':=by
 have HL:=aa (mL sx sy ux uy tx ty vx vy);obtain⟨R,hR⟩:∃R,R=dc ⟨⟨sx,sy⟩,⟨ux,uy⟩⟩ ⟨⟨tx,ty⟩,⟨vx,vy⟩⟩:=⟨_,rfl⟩;rw[←hR]at HL ⊢;clear hR;have HN:=aa (p9 ax ay bx bY cx cy dx dy true hn);have HS1:=aa (cJ ax ay bx bY);have HS2:=aa (cJ cx cy dx dy);rw[hs]at HS1;rw[ht]at HS2;unfold vS at HS1 HS2;clear hn hs ht;go_enter Tryz.func25,Tryz.ntmps25;go_wp2_with fail;refine(HN.out _ _ _ _ (by simp)).mono ?_;rintro _ w1 ⟨rfl,b1⟩
 have hm:MB w w1 ax ay bx bY cx cy dx dy:=⟨ai b1 (dU _ (cj _ _ _ rfl)),ai b1 (cj _ _ _ (by simp)),aq (((Below.refl _ _).alloc (Nat.le_refl _) _).alloc (by simp) _) b1⟩;obtain⟨⟨a1,a2,a3,a4⟩,a5,a6,a7,a8⟩:=aE hm.a;obtain⟨⟨c1,c2,c3,c4⟩,c5,c6,c7,c8⟩:=aE hm.b;have hz1:=lt_of_block hm.a;have hz2:=lt_of_block hm.b;clear b1;go_upto_region 3 with(fail);go_cut [] (fun wx=>MB w wx sx sy ux uy tx ty vx vy)
 case first=>
  go_region_with (first
   |(go_at_call 75;(with_reducible refine(HS1.out _).mono ?_);rintro _ w2 ⟨rfl,b2⟩;first|(have hm2:=hm.drew.lift b2;(obtain⟨⟨d1,d2,d3,d4⟩,d5,d6,d7,d8⟩:=aE hm2.a);(obtain⟨⟨e1,e2,e3,e4⟩,e5,e6,e7,e8⟩:=aE hm2.b))|(have hm2:=hm3.lift b2;(obtain⟨⟨d1,d2,d3,d4⟩,d5,d6,d7,d8⟩:=aE hm2.a);(obtain⟨⟨e1,e2,e3,e4⟩,e5,e6,e7,e8⟩:=aE hm2.b)))
   |(go_at_call 75;(with_reducible refine(HS2.out _).mono ?_);rintro _ w3 ⟨rfl,b3⟩;first|(have hm3:=hm.drew.lift b3;(obtain⟨⟨f1,f2,f3,f4⟩,f5,f6,f7,f8⟩:=aE hm3.a);(obtain⟨⟨g1,g2,g3,g4⟩,g5,g6,g7,g8⟩:=aE hm3.b))|(have hm3:=hm2.lift b3;(obtain⟨⟨f1,f2,f3,f4⟩,f5,f6,f7,f8⟩:=aE hm3.a);(obtain⟨⟨g1,g2,g3,g4⟩,g5,g6,g7,g8⟩:=aE hm3.b))))
  all_goals (go_wp2_with fail;go_meet;first|exact hm3.set _ _ _ _ _ _ _ _|exact hm2.set _ _ _ _ _ _ _ _)
 case rest=>
  clear hm a1 a2 a3 a4 a5 a6 a7 a8 c1 c2 c3 c4 c5 c6 c7 c8 hz1 hz2 HS1 HS2 HN;have hm:=hcut;clear hcut;obtain⟨⟨d1,d2,d3,d4⟩,d5,d6,d7,d8⟩:=aE hm.a;obtain⟨⟨e1,e2,e3,e4⟩,e5,e6,e7,e8⟩:=aE hm.b;go_wp2_with fail;refine(HL.out _).mono ?_;rintro _ w9 ⟨rfl,b9⟩;go_wp2_with fail;go_ret;exact⟨rfl,(hm.lift b9).below⟩
theorem CD(ax ay bx bY cx cy dx dy sx sy ux uy tx ty vx vy:Int)(w:World)(hn:aD [⟨ax,ay⟩,⟨bx,bY⟩,⟨cx,cy⟩,⟨dx,dy⟩]=true)(hs:aO ⟨⟨ax,ay⟩,⟨bx,bY⟩⟩=⟨⟨sx,sy⟩,⟨ux,uy⟩⟩)(ht:aO ⟨⟨cx,cy⟩,⟨dx,dy⟩⟩=⟨⟨tx,ty⟩,⟨vx,vy⟩⟩)
  (h0:qc sx sy ux uy tx ty vx vy=false)(h1:dO sx sy ux uy=false)(h2:dO tx ty vx vy=false)(h3:ah ⟨sx,sy⟩ ⟨ux,uy⟩ ⟨tx,ty⟩=0)(h4:ah ⟨sx,sy⟩ ⟨ux,uy⟩ ⟨vx,vy⟩=0):
  Calls Tryz.prog 25 #[.agg #[.int .i64 ax,.int .i64 ay,.int .i64 bx,.int .i64 bY],.agg #[.int .i64 cx,.int .i64 cy,.int .i64 dx,.int .i64 dy]] w fun e w'=>e= .returned (.int .i64 (dc ⟨⟨sx,sy⟩,⟨ux,uy⟩⟩ ⟨⟨tx,ty⟩,⟨vx,vy⟩⟩))∧Below w.heap.size w w':=by
 have HL:=aa (mL sx sy ux uy tx ty vx vy);obtain⟨R,hR⟩:∃R,R=dc ⟨⟨sx,sy⟩,⟨ux,uy⟩⟩ ⟨⟨tx,ty⟩,⟨vx,vy⟩⟩:=⟨_,rfl⟩;rw[←hR]at HL ⊢;clear hR;have HO1:=aa (cX sx sy ux uy tx ty);have HO2:=aa (cX sx sy ux uy vx vy);rw[h3]at HO1;rw[h4]at HO2;clear h3 h4;have HN:=aa (p9 ax ay bx bY cx cy dx dy true hn);have HS1:=aa (cJ ax ay bx bY);have HS2:=aa (cJ cx cy dx dy);rw[hs]at HS1;rw[ht]at HS2;unfold vS at HS1 HS2;clear hn hs ht;go_enter Tryz.func25,Tryz.ntmps25;go_wp2_with fail
 refine(HN.out _ _ _ _ (by simp)).mono ?_;rintro _ w1 ⟨rfl,b1⟩;have hm:MB w w1 ax ay bx bY cx cy dx dy:=⟨ai b1 (dU _ (cj _ _ _ rfl)),ai b1 (cj _ _ _ (by simp)),aq (((Below.refl _ _).alloc (Nat.le_refl _) _).alloc (by simp) _) b1⟩;obtain⟨⟨a1,a2,a3,a4⟩,a5,a6,a7,a8⟩:=aE hm.a;obtain⟨⟨c1,c2,c3,c4⟩,c5,c6,c7,c8⟩:=aE hm.b;have hz1:=lt_of_block hm.a;have hz2:=lt_of_block hm.b;clear b1;go_upto_region 3 with(fail);go_cut [] (fun wx=>MB w wx sx sy ux uy tx ty vx vy)
 case first=>
  go_region_with (first
   |(go_at_call 75;(with_reducible refine(HS1.out _).mono ?_);rintro _ w2 ⟨rfl,b2⟩;first|(have hm2:=hm.drew.lift b2;(obtain⟨⟨d1,d2,d3,d4⟩,d5,d6,d7,d8⟩:=aE hm2.a);(obtain⟨⟨e1,e2,e3,e4⟩,e5,e6,e7,e8⟩:=aE hm2.b))|(have hm2:=hm3.lift b2;(obtain⟨⟨d1,d2,d3,d4⟩,d5,d6,d7,d8⟩:=aE hm2.a);(obtain⟨⟨e1,e2,e3,e4⟩,e5,e6,e7,e8⟩:=aE hm2.b)))
   |(go_at_call 75;(with_reducible refine(HS2.out _).mono ?_);rintro _ w3 ⟨rfl,b3⟩;first|(have hm3:=hm.drew.lift b3;(obtain⟨⟨f1,f2,f3,f4⟩,f5,f6,f7,f8⟩:=aE hm3.a);(obtain⟨⟨g1,g2,g3,g4⟩,g5,g6,g7,g8⟩:=aE hm3.b))|(have hm3:=hm2.lift b3;(obtain⟨⟨f1,f2,f3,f4⟩,f5,f6,f7,f8⟩:=aE hm3.a);(obtain⟨⟨g1,g2,g3,g4⟩,g5,g6,g7,g8⟩:=aE hm3.b))))
  all_goals (go_wp2_with fail;go_meet;first|exact hm3.set _ _ _ _ _ _ _ _|exact hm2.set _ _ _ _ _ _ _ _)
 case rest=>
  clear hm a1 a2 a3 a4 a5 a6 a7 a8 c1 c2 c3 c4 c5 c6 c7 c8 hz1 hz2 HS1 HS2 HN;have hm:=hcut;clear hcut;obtain⟨⟨d1,d2,d3,d4⟩,d5,d6,d7,d8⟩:=aE hm.a;obtain⟨⟨e1,e2,e3,e4⟩,e5,e6,e7,e8⟩:=aE hm.b;go_wp2_with fail;refine(HO1.out _).mono ?_;rintro _ w5 ⟨rfl,b5⟩;have hm5:=hm.lift b5;clear d1 d2 d3 d4 d5 d6 d7 d8 e1 e2 e3 e4 e5 e6 e7 e8;clear b5;obtain⟨⟨d1,d2,d3,d4⟩,d5,d6,d7,d8⟩:=aE hm5.a;obtain⟨⟨e1,e2,e3,e4⟩,e5,e6,e7,e8⟩:=aE hm5.b;go_wp2_with fail;refine(HO2.out _).mono ?_;rintro _ w6 ⟨rfl,b6⟩
  have hm6:=hm5.lift b6;clear d1 d2 d3 d4 d5 d6 d7 d8 e1 e2 e3 e4 e5 e6 e7 e8;clear b6;obtain⟨⟨d1,d2,d3,d4⟩,d5,d6,d7,d8⟩:=aE hm6.a;obtain⟨⟨e1,e2,e3,e4⟩,e5,e6,e7,e8⟩:=aE hm6.b;go_wp2_with fail;refine(HL.out _).mono ?_;rintro _ w9 ⟨rfl,b9⟩;go_wp2_with fail;go_ret;exact⟨rfl,(hm6.lift b9).below⟩
theorem sN(a b c:Pt): -1≤ah a b c∧ah a b c≤1:=by
 unfold ah;have:=bN (ae a b c) 0;split<;>omega
theorem jg(a b c d e f:Pt): -1≤ah a b c*ah d e f∧ah a b c*ah d e f≤1:=by
 have h1:=sN a b c;have h2:=sN d e f;exact pO 1 _ _ h1.1 h1.2 h2.1 h2.2
theorem Fo(ax ay bx bY cx cy dx dy sx sy ux uy tx ty vx vy:Int)(w:World)(hn:aD [⟨ax,ay⟩,⟨bx,bY⟩,⟨cx,cy⟩,⟨dx,dy⟩]=true)(hs:aO ⟨⟨ax,ay⟩,⟨bx,bY⟩⟩=⟨⟨sx,sy⟩,⟨ux,uy⟩⟩)(ht:aO ⟨⟨cx,cy⟩,⟨dx,dy⟩⟩=⟨⟨tx,ty⟩,⟨vx,vy⟩⟩)
  (h0:qc sx sy ux uy tx ty vx vy=false)(h1:dO sx sy ux uy=false)(h2:dO tx ty vx vy=false)(h3:(ah ⟨sx,sy⟩ ⟨ux,uy⟩ ⟨tx,ty⟩ ==0)=false):
  Calls Tryz.prog 25 #[.agg #[.int .i64 ax,.int .i64 ay,.int .i64 bx,.int .i64 bY],.agg #[.int .i64 cx,.int .i64 cy,.int .i64 dx,.int .i64 dy]] w fun e w'=>e= .returned (.int .i64 (cO (ah ⟨sx,sy⟩ ⟨ux,uy⟩ ⟨tx,ty⟩) (ah ⟨sx,sy⟩ ⟨ux,uy⟩ ⟨vx,vy⟩) (ah ⟨tx,ty⟩ ⟨vx,vy⟩ ⟨sx,sy⟩) (ah ⟨tx,ty⟩ ⟨vx,vy⟩ ⟨ux,uy⟩)))∧Below w.heap.size w w':=by
 have HO1:=aa (cX sx sy ux uy tx ty);have HO2:=aa (cX sx sy ux uy vx vy);have HO3:=aa (cX tx ty vx vy sx sy);have HO4:=aa (cX tx ty vx vy ux uy);have p1:=jg ⟨sx,sy⟩ ⟨ux,uy⟩ ⟨tx,ty⟩ ⟨sx,sy⟩ ⟨ux,uy⟩ ⟨vx,vy⟩;have p2:=jg ⟨tx,ty⟩ ⟨vx,vy⟩ ⟨sx,sy⟩ ⟨tx,ty⟩ ⟨vx,vy⟩ ⟨ux,uy⟩;generalize ah ⟨sx,sy⟩ ⟨ux,uy⟩ ⟨tx,ty⟩=o1 at*;generalize ah ⟨sx,sy⟩ ⟨ux,uy⟩ ⟨vx,vy⟩=o2 at*;generalize ah ⟨tx,ty⟩ ⟨vx,vy⟩ ⟨sx,sy⟩=o3 at*;generalize ah ⟨tx,ty⟩ ⟨vx,vy⟩ ⟨ux,uy⟩=o4 at*;obtain⟨R,hR⟩:∃R,R=cO o1 o2 o3 o4:=⟨_,rfl⟩;rw[←hR]
 have HR:=aa hR;clear hR;have HN:=aa (p9 ax ay bx bY cx cy dx dy true hn);have HS1:=aa (cJ ax ay bx bY);have HS2:=aa (cJ cx cy dx dy);rw[hs]at HS1;rw[ht]at HS2;unfold vS at HS1 HS2;clear hn hs ht;go_enter Tryz.func25,Tryz.ntmps25;go_wp2_with fail;refine(HN.out _ _ _ _ (by simp)).mono ?_;rintro _ w1 ⟨rfl,b1⟩;have hm:MB w w1 ax ay bx bY cx cy dx dy:=⟨ai b1 (dU _ (cj _ _ _ rfl)),ai b1 (cj _ _ _ (by simp)),aq (((Below.refl _ _).alloc (Nat.le_refl _) _).alloc (by simp) _) b1⟩
 obtain⟨⟨a1,a2,a3,a4⟩,a5,a6,a7,a8⟩:=aE hm.a;obtain⟨⟨c1,c2,c3,c4⟩,c5,c6,c7,c8⟩:=aE hm.b;have hz1:=lt_of_block hm.a;have hz2:=lt_of_block hm.b;clear b1;go_upto_region 3 with(fail);go_cut [] (fun wx=>MB w wx sx sy ux uy tx ty vx vy)
 case first=>
  go_region_with (first
   |(go_at_call 75;(with_reducible refine(HS1.out _).mono ?_);rintro _ w2 ⟨rfl,b2⟩;first|(have hm2:=hm.drew.lift b2;(obtain⟨⟨d1,d2,d3,d4⟩,d5,d6,d7,d8⟩:=aE hm2.a);(obtain⟨⟨e1,e2,e3,e4⟩,e5,e6,e7,e8⟩:=aE hm2.b))|(have hm2:=hm3.lift b2;(obtain⟨⟨d1,d2,d3,d4⟩,d5,d6,d7,d8⟩:=aE hm2.a);(obtain⟨⟨e1,e2,e3,e4⟩,e5,e6,e7,e8⟩:=aE hm2.b)))
   |(go_at_call 75;(with_reducible refine(HS2.out _).mono ?_);rintro _ w3 ⟨rfl,b3⟩;first|(have hm3:=hm.drew.lift b3;(obtain⟨⟨f1,f2,f3,f4⟩,f5,f6,f7,f8⟩:=aE hm3.a);(obtain⟨⟨g1,g2,g3,g4⟩,g5,g6,g7,g8⟩:=aE hm3.b))|(have hm3:=hm2.lift b3;(obtain⟨⟨f1,f2,f3,f4⟩,f5,f6,f7,f8⟩:=aE hm3.a);(obtain⟨⟨g1,g2,g3,g4⟩,g5,g6,g7,g8⟩:=aE hm3.b))))
  all_goals (go_wp2_with fail;go_meet;first|exact hm3.set _ _ _ _ _ _ _ _|exact hm2.set _ _ _ _ _ _ _ _)
 case rest=>
  clear hm a1 a2 a3 a4 a5 a6 a7 a8 c1 c2 c3 c4 c5 c6 c7 c8 hz1 hz2 HS1 HS2 HN;have hm:=hcut;clear hcut;obtain⟨⟨d1,d2,d3,d4⟩,d5,d6,d7,d8⟩:=aE hm.a;obtain⟨⟨e1,e2,e3,e4⟩,e5,e6,e7,e8⟩:=aE hm.b;go_upto_region 8 with((go_at_call 76;(with_reducible refine(HO1.out _).mono ?_);rintro _ w5 ⟨rfl,b5⟩;have hm5:=hm.lift b5;clear d1 d2 d3 d4 d5 d6 d7 d8 e1 e2 e3 e4 e5 e6 e7 e8;obtain⟨⟨d1,d2,d3,d4⟩,d5,d6,d7,d8⟩:=aE hm5.a;obtain⟨⟨e1,e2,e3,e4⟩,e5,e6,e7,e8⟩:=aE hm5.b))
  go_cut [5,6] (fun s5 s6 wx=>s5= .int .i64 o1∧s6= .int .i64 o2∧MB w wx sx sy ux uy tx ty vx vy)
  case first=>
   go_region_held3 (fun w'=>MB w w' sx sy ux uy tx ty vx vy∧w'.cell? ⟨w.heap.size,0,none⟩=some (.int .i64 sx)∧w'.cell? ⟨w.heap.size,1,none⟩=some (.int .i64 sy)∧w'.cell? ⟨w.heap.size,2,none⟩=some (.int .i64 ux)∧w'.cell? ⟨w.heap.size,3,none⟩=some (.int .i64 uy)∧w'.cell? ⟨w.heap.size+1,0,none⟩=some (.int .i64 tx)∧w'.cell? ⟨w.heap.size+1,1,none⟩=some (.int .i64 ty)∧w'.cell? ⟨w.heap.size+1,2,none⟩=some (.int .i64 vx)∧w'.cell? ⟨w.heap.size+1,3,none⟩=some (.int .i64 vy))
    ((first
     |exact⟨hk7,(aE hk7.a).1.1,(aE hk7.a).1.2.1,(aE hk7.a).1.2.2.1,(aE hk7.a).1.2.2.2,(aE hk7.b).1.1,(aE hk7.b).1.2.1,(aE hk7.b).1.2.2.1,(aE hk7.b).1.2.2.2⟩
     |exact⟨hm5.drew,(aE hm5.a).1.1,(aE hm5.a).1.2.1,(aE hm5.a).1.2.2.1,(aE hm5.a).1.2.2.2,(aE hm5.b).1.1,(aE hm5.b).1.2.1,(aE hm5.b).1.2.2.1,(aE hm5.b).1.2.2.2⟩))
    (first|(go_at_call 76;(with_reducible refine(HO1.out _).mono ?_);rintro _ w7 ⟨rfl,b7⟩;have hk7:=MB.lift (And.left (by assumption)) b7)|(go_at_call 76;(with_reducible refine(HO2.out _).mono ?_);rintro _ w7 ⟨rfl,b7⟩;have hk7:=MB.lift (And.left (by assumption)) b7))
   all_goals (go_wp2_with fail;go_meet;exact⟨rfl,rfl,And.left (by assumption)⟩)
  case rest=>
   obtain⟨rfl,rfl,hm10⟩:=hcut;clear d1 d2 d3 d4 d5 d6 d7 d8 e1 e2 e3 e4 e5 e6 e7 e8;obtain⟨⟨d1,d2,d3,d4⟩,d5,d6,d7,d8⟩:=aE hm10.a;obtain⟨⟨e1,e2,e3,e4⟩,e5,e6,e7,e8⟩:=aE hm10.b;go_upto_region 9 with(fail);go_cut [7,8] (fun s5 s6 wx=>s5= .int .i64 o3∧s6= .int .i64 o4∧MB w wx sx sy ux uy tx ty vx vy)
   case first=>
    go_region_held3 (fun w'=>MB w w' sx sy ux uy tx ty vx vy∧w'.cell? ⟨w.heap.size,0,none⟩=some (.int .i64 sx)∧w'.cell? ⟨w.heap.size,1,none⟩=some (.int .i64 sy)∧w'.cell? ⟨w.heap.size,2,none⟩=some (.int .i64 ux)∧w'.cell? ⟨w.heap.size,3,none⟩=some (.int .i64 uy)∧w'.cell? ⟨w.heap.size+1,0,none⟩=some (.int .i64 tx)∧w'.cell? ⟨w.heap.size+1,1,none⟩=some (.int .i64 ty)∧w'.cell? ⟨w.heap.size+1,2,none⟩=some (.int .i64 vx)∧w'.cell? ⟨w.heap.size+1,3,none⟩=some (.int .i64 vy))
     ((first
      |exact⟨hk7,(aE hk7.a).1.1,(aE hk7.a).1.2.1,(aE hk7.a).1.2.2.1,(aE hk7.a).1.2.2.2,(aE hk7.b).1.1,(aE hk7.b).1.2.1,(aE hk7.b).1.2.2.1,(aE hk7.b).1.2.2.2⟩
      |exact⟨hm10.drew,(aE hm10.a).1.1,(aE hm10.a).1.2.1,(aE hm10.a).1.2.2.1,(aE hm10.a).1.2.2.2,(aE hm10.b).1.1,(aE hm10.b).1.2.1,(aE hm10.b).1.2.2.1,(aE hm10.b).1.2.2.2⟩))
     (first|(go_at_call 76;(with_reducible refine(HO3.out _).mono ?_);rintro _ w7 ⟨rfl,b7⟩;have hk7:=MB.lift (And.left (by assumption)) b7)|(go_at_call 76;(with_reducible refine(HO4.out _).mono ?_);rintro _ w7 ⟨rfl,b7⟩;have hk7:=MB.lift (And.left (by assumption)) b7))
    all_goals (go_wp2_with fail;go_meet;exact⟨rfl,rfl,And.left (by assumption)⟩)
   case rest=>
    obtain⟨rfl,rfl,hm11⟩:=hcut;clear d1 d2 d3 d4 d5 d6 d7 d8 e1 e2 e3 e4 e5 e6 e7 e8;obtain⟨⟨d1,d2,d3,d4⟩,d5,d6,d7,d8⟩:=aE hm11.a;obtain⟨⟨e1,e2,e3,e4⟩,e5,e6,e7,e8⟩:=aE hm11.b;obtain⟨p11,p12⟩:=p1;obtain⟨p21,p22⟩:=p2;have hmf:=hm11.below;clear d1 d2 d3 d4 d5 d6 d7 d8 e1 e2 e3 e4 e5 e6 e7 e8 hm11;have t1:o1*o2<0∨o1*o2=0∨0<o1*o2:=O9;have t2:o3*o4<0∨o3*o4=0∨0<o3*o4:=O9;rcases t1 with t1|t1|t1
    all_goals rcases t2 with t2|t2|t2
    all_goals
     go_wp2_with fail;go_ret;exact⟨cW (by rw[HR.out];unfold cO;(repeat' split)<;>first|rfl|omega),hmf⟩
theorem Fp(ax ay bx bY cx cy dx dy sx sy ux uy tx ty vx vy:Int)(w:World)(hn:aD [⟨ax,ay⟩,⟨bx,bY⟩,⟨cx,cy⟩,⟨dx,dy⟩]=true)(hs:aO ⟨⟨ax,ay⟩,⟨bx,bY⟩⟩=⟨⟨sx,sy⟩,⟨ux,uy⟩⟩)(ht:aO ⟨⟨cx,cy⟩,⟨dx,dy⟩⟩=⟨⟨tx,ty⟩,⟨vx,vy⟩⟩)
  (h0:qc sx sy ux uy tx ty vx vy=false)(h1:dO sx sy ux uy=false)(h2:dO tx ty vx vy=false)(h3:(ah ⟨sx,sy⟩ ⟨ux,uy⟩ ⟨tx,ty⟩ ==0)=true)(h4:(ah ⟨sx,sy⟩ ⟨ux,uy⟩ ⟨vx,vy⟩ ==0)=false):
  Calls Tryz.prog 25 #[.agg #[.int .i64 ax,.int .i64 ay,.int .i64 bx,.int .i64 bY],.agg #[.int .i64 cx,.int .i64 cy,.int .i64 dx,.int .i64 dy]] w fun e w'=>e= .returned (.int .i64 (cO (ah ⟨sx,sy⟩ ⟨ux,uy⟩ ⟨tx,ty⟩) (ah ⟨sx,sy⟩ ⟨ux,uy⟩ ⟨vx,vy⟩) (ah ⟨tx,ty⟩ ⟨vx,vy⟩ ⟨sx,sy⟩) (ah ⟨tx,ty⟩ ⟨vx,vy⟩ ⟨ux,uy⟩)))∧Below w.heap.size w w':=by
 have HO1:=aa (cX sx sy ux uy tx ty);have HO2:=aa (cX sx sy ux uy vx vy);have HO3:=aa (cX tx ty vx vy sx sy);have HO4:=aa (cX tx ty vx vy ux uy);have p1:=jg ⟨sx,sy⟩ ⟨ux,uy⟩ ⟨tx,ty⟩ ⟨sx,sy⟩ ⟨ux,uy⟩ ⟨vx,vy⟩;have p2:=jg ⟨tx,ty⟩ ⟨vx,vy⟩ ⟨sx,sy⟩ ⟨tx,ty⟩ ⟨vx,vy⟩ ⟨ux,uy⟩;generalize ah ⟨sx,sy⟩ ⟨ux,uy⟩ ⟨tx,ty⟩=o1 at*;generalize ah ⟨sx,sy⟩ ⟨ux,uy⟩ ⟨vx,vy⟩=o2 at*;generalize ah ⟨tx,ty⟩ ⟨vx,vy⟩ ⟨sx,sy⟩=o3 at*;generalize ah ⟨tx,ty⟩ ⟨vx,vy⟩ ⟨ux,uy⟩=o4 at*;obtain⟨R,hR⟩:∃R,R=cO o1 o2 o3 o4:=⟨_,rfl⟩;rw[←hR]
 have HR:=aa hR;clear hR;have HN:=aa (p9 ax ay bx bY cx cy dx dy true hn);have HS1:=aa (cJ ax ay bx bY);have HS2:=aa (cJ cx cy dx dy);rw[hs]at HS1;rw[ht]at HS2;unfold vS at HS1 HS2;clear hn hs ht;go_enter Tryz.func25,Tryz.ntmps25;go_wp2_with fail;refine(HN.out _ _ _ _ (by simp)).mono ?_;rintro _ w1 ⟨rfl,b1⟩;have hm:MB w w1 ax ay bx bY cx cy dx dy:=⟨ai b1 (dU _ (cj _ _ _ rfl)),ai b1 (cj _ _ _ (by simp)),aq (((Below.refl _ _).alloc (Nat.le_refl _) _).alloc (by simp) _) b1⟩
 obtain⟨⟨a1,a2,a3,a4⟩,a5,a6,a7,a8⟩:=aE hm.a;obtain⟨⟨c1,c2,c3,c4⟩,c5,c6,c7,c8⟩:=aE hm.b;have hz1:=lt_of_block hm.a;have hz2:=lt_of_block hm.b;clear b1;go_upto_region 3 with(fail);go_cut [] (fun wx=>MB w wx sx sy ux uy tx ty vx vy)
 case first=>
  go_region_with (first
   |(go_at_call 75;(with_reducible refine(HS1.out _).mono ?_);rintro _ w2 ⟨rfl,b2⟩;first|(have hm2:=hm.drew.lift b2;(obtain⟨⟨d1,d2,d3,d4⟩,d5,d6,d7,d8⟩:=aE hm2.a);(obtain⟨⟨e1,e2,e3,e4⟩,e5,e6,e7,e8⟩:=aE hm2.b))|(have hm2:=hm3.lift b2;(obtain⟨⟨d1,d2,d3,d4⟩,d5,d6,d7,d8⟩:=aE hm2.a);(obtain⟨⟨e1,e2,e3,e4⟩,e5,e6,e7,e8⟩:=aE hm2.b)))
   |(go_at_call 75;(with_reducible refine(HS2.out _).mono ?_);rintro _ w3 ⟨rfl,b3⟩;first|(have hm3:=hm.drew.lift b3;(obtain⟨⟨f1,f2,f3,f4⟩,f5,f6,f7,f8⟩:=aE hm3.a);(obtain⟨⟨g1,g2,g3,g4⟩,g5,g6,g7,g8⟩:=aE hm3.b))|(have hm3:=hm2.lift b3;(obtain⟨⟨f1,f2,f3,f4⟩,f5,f6,f7,f8⟩:=aE hm3.a);(obtain⟨⟨g1,g2,g3,g4⟩,g5,g6,g7,g8⟩:=aE hm3.b))))
  all_goals (go_wp2_with fail;go_meet;first|exact hm3.set _ _ _ _ _ _ _ _|exact hm2.set _ _ _ _ _ _ _ _)
 case rest=>
  clear hm a1 a2 a3 a4 a5 a6 a7 a8 c1 c2 c3 c4 c5 c6 c7 c8 hz1 hz2 HS1 HS2 HN;have hm:=hcut;clear hcut;obtain⟨⟨d1,d2,d3,d4⟩,d5,d6,d7,d8⟩:=aE hm.a;obtain⟨⟨e1,e2,e3,e4⟩,e5,e6,e7,e8⟩:=aE hm.b;go_wp2_with fail;refine(HO1.out _).mono ?_;rintro _ w5 ⟨rfl,b5⟩;have hm5:=hm.lift b5;clear d1 d2 d3 d4 d5 d6 d7 d8 e1 e2 e3 e4 e5 e6 e7 e8;clear b5;obtain⟨⟨d1,d2,d3,d4⟩,d5,d6,d7,d8⟩:=aE hm5.a;obtain⟨⟨e1,e2,e3,e4⟩,e5,e6,e7,e8⟩:=aE hm5.b;go_wp2_with fail;refine(HO2.out _).mono ?_;rintro _ w6 ⟨rfl,b6⟩
  have hm6:=hm5.lift b6;clear d1 d2 d3 d4 d5 d6 d7 d8 e1 e2 e3 e4 e5 e6 e7 e8;clear b6;obtain⟨⟨d1,d2,d3,d4⟩,d5,d6,d7,d8⟩:=aE hm6.a;obtain⟨⟨e1,e2,e3,e4⟩,e5,e6,e7,e8⟩:=aE hm6.b;go_upto_region 8 with(fail);go_cut [5,6] (fun s5 s6 wx=>s5= .int .i64 o1∧s6= .int .i64 o2∧MB w wx sx sy ux uy tx ty vx vy)
  case first=>
   go_region_held3 (fun w'=>MB w w' sx sy ux uy tx ty vx vy∧w'.cell? ⟨w.heap.size,0,none⟩=some (.int .i64 sx)∧w'.cell? ⟨w.heap.size,1,none⟩=some (.int .i64 sy)∧w'.cell? ⟨w.heap.size,2,none⟩=some (.int .i64 ux)∧w'.cell? ⟨w.heap.size,3,none⟩=some (.int .i64 uy)∧w'.cell? ⟨w.heap.size+1,0,none⟩=some (.int .i64 tx)∧w'.cell? ⟨w.heap.size+1,1,none⟩=some (.int .i64 ty)∧w'.cell? ⟨w.heap.size+1,2,none⟩=some (.int .i64 vx)∧w'.cell? ⟨w.heap.size+1,3,none⟩=some (.int .i64 vy))
    ((first
     |exact⟨hk7,(aE hk7.a).1.1,(aE hk7.a).1.2.1,(aE hk7.a).1.2.2.1,(aE hk7.a).1.2.2.2,(aE hk7.b).1.1,(aE hk7.b).1.2.1,(aE hk7.b).1.2.2.1,(aE hk7.b).1.2.2.2⟩
     |exact⟨hm6.drew,(aE hm6.a).1.1,(aE hm6.a).1.2.1,(aE hm6.a).1.2.2.1,(aE hm6.a).1.2.2.2,(aE hm6.b).1.1,(aE hm6.b).1.2.1,(aE hm6.b).1.2.2.1,(aE hm6.b).1.2.2.2⟩))
    (first|(go_at_call 76;(with_reducible refine(HO1.out _).mono ?_);rintro _ w7 ⟨rfl,b7⟩;have hk7:=MB.lift (And.left (by assumption)) b7)|(go_at_call 76;(with_reducible refine(HO2.out _).mono ?_);rintro _ w7 ⟨rfl,b7⟩;have hk7:=MB.lift (And.left (by assumption)) b7))
   all_goals (go_wp2_with fail;go_meet;exact⟨rfl,rfl,And.left (by assumption)⟩)
  case rest=>
   obtain⟨rfl,rfl,hm10⟩:=hcut;clear d1 d2 d3 d4 d5 d6 d7 d8 e1 e2 e3 e4 e5 e6 e7 e8;obtain⟨⟨d1,d2,d3,d4⟩,d5,d6,d7,d8⟩:=aE hm10.a;obtain⟨⟨e1,e2,e3,e4⟩,e5,e6,e7,e8⟩:=aE hm10.b;go_upto_region 9 with(fail);go_cut [7,8] (fun s5 s6 wx=>s5= .int .i64 o3∧s6= .int .i64 o4∧MB w wx sx sy ux uy tx ty vx vy)
   case first=>
    go_region_held3 (fun w'=>MB w w' sx sy ux uy tx ty vx vy∧w'.cell? ⟨w.heap.size,0,none⟩=some (.int .i64 sx)∧w'.cell? ⟨w.heap.size,1,none⟩=some (.int .i64 sy)∧w'.cell? ⟨w.heap.size,2,none⟩=some (.int .i64 ux)∧w'.cell? ⟨w.heap.size,3,none⟩=some (.int .i64 uy)∧w'.cell? ⟨w.heap.size+1,0,none⟩=some (.int .i64 tx)∧w'.cell? ⟨w.heap.size+1,1,none⟩=some (.int .i64 ty)∧w'.cell? ⟨w.heap.size+1,2,none⟩=some (.int .i64 vx)∧w'.cell? ⟨w.heap.size+1,3,none⟩=some (.int .i64 vy))
     ((first
      |exact⟨hk7,(aE hk7.a).1.1,(aE hk7.a).1.2.1,(aE hk7.a).1.2.2.1,(aE hk7.a).1.2.2.2,(aE hk7.b).1.1,(aE hk7.b).1.2.1,(aE hk7.b).1.2.2.1,(aE hk7.b).1.2.2.2⟩
      |exact⟨hm10.drew,(aE hm10.a).1.1,(aE hm10.a).1.2.1,(aE hm10.a).1.2.2.1,(aE hm10.a).1.2.2.2,(aE hm10.b).1.1,(aE hm10.b).1.2.1,(aE hm10.b).1.2.2.1,(aE hm10.b).1.2.2.2⟩))
     (first|(go_at_call 76;(with_reducible refine(HO3.out _).mono ?_);rintro _ w7 ⟨rfl,b7⟩;have hk7:=MB.lift (And.left (by assumption)) b7)|(go_at_call 76;(with_reducible refine(HO4.out _).mono ?_);rintro _ w7 ⟨rfl,b7⟩;have hk7:=MB.lift (And.left (by assumption)) b7))
    all_goals (go_wp2_with fail;go_meet;exact⟨rfl,rfl,And.left (by assumption)⟩)
   case rest=>
    obtain⟨rfl,rfl,hm11⟩:=hcut;clear d1 d2 d3 d4 d5 d6 d7 d8 e1 e2 e3 e4 e5 e6 e7 e8;obtain⟨⟨d1,d2,d3,d4⟩,d5,d6,d7,d8⟩:=aE hm11.a;obtain⟨⟨e1,e2,e3,e4⟩,e5,e6,e7,e8⟩:=aE hm11.b;obtain⟨p11,p12⟩:=p1;obtain⟨p21,p22⟩:=p2;have hmf:=hm11.below;clear d1 d2 d3 d4 d5 d6 d7 d8 e1 e2 e3 e4 e5 e6 e7 e8 hm11;have t1:o1*o2<0∨o1*o2=0∨0<o1*o2:=O9;have t2:o3*o4<0∨o3*o4=0∨0<o3*o4:=O9;rcases t1 with t1|t1|t1
    all_goals rcases t2 with t2|t2|t2
    all_goals
     go_wp2_with fail;go_ret;exact⟨cW (by rw[HR.out];unfold cO;(repeat' split)<;>first|rfl|omega),hmf⟩
theorem sO(ax ay bx bY cx cy dx dy:Int)(w:World):
  Calls Tryz.prog 25 #[.agg #[.int .i64 ax,.int .i64 ay,.int .i64 bx,.int .i64 bY],.agg #[.int .i64 cx,.int .i64 cy,.int .i64 dx,.int .i64 dy]] w fun e w'=>
   e= .returned (.int .i64 (meets ⟨⟨ax,ay⟩,⟨bx,bY⟩⟩ ⟨⟨cx,cy⟩,⟨dx,dy⟩⟩))∧Below w.heap.size w w':=by
 cases hn:aD [⟨ax,ay⟩,⟨bx,bY⟩,⟨cx,cy⟩,⟨dx,dy⟩]with
 |false=>
  have hr:meets ⟨⟨ax,ay⟩,⟨bx,bY⟩⟩ ⟨⟨cx,cy⟩,⟨dx,dy⟩⟩=0:=by rw[meets,hn];rfl
  rw[hr];have HN:=aa (p9 ax ay bx bY cx cy dx dy false hn);clear hn hr;go_enter Tryz.func25,Tryz.ntmps25;go_wp2_with fail;refine(HN.out _ _ _ _ (by simp)).mono ?_;rintro _ w1 ⟨rfl,b1⟩;go_wp2_with fail;go_ret;exact⟨rfl,aq (((Below.refl _ _).alloc (Nat.le_refl _) _).alloc (by simp) _) b1⟩
 |true=>
  obtain⟨s',hs'⟩:∃s',aO ⟨⟨ax,ay⟩,⟨bx,bY⟩⟩=s':=⟨_,rfl⟩;obtain⟨t',ht'⟩:∃t',aO ⟨⟨cx,cy⟩,⟨dx,dy⟩⟩=t':=⟨_,rfl⟩;obtain⟨⟨sx,sy⟩,⟨ux,uy⟩⟩:=s';obtain⟨⟨tx,ty⟩,⟨vx,vy⟩⟩:=t';have hr:meets ⟨⟨ax,ay⟩,⟨bx,bY⟩⟩ ⟨⟨cx,cy⟩,⟨dx,dy⟩⟩=bz ⟨⟨sx,sy⟩,⟨ux,uy⟩⟩ ⟨⟨tx,ty⟩,⟨vx,vy⟩⟩:=by
   rw[meets,hs',ht'];show(if aD [⟨ax,ay⟩,⟨bx,bY⟩,⟨cx,cy⟩,⟨dx,dy⟩]=true then _ else _)=_;rw[hn];rfl
  rw[hr];unfold bz;simp only;have g0:=DT ⟨⟨sx,sy⟩,⟨ux,uy⟩⟩ ⟨⟨tx,ty⟩,⟨vx,vy⟩⟩;have g1:=fp ⟨sx,sy⟩ ⟨ux,uy⟩;have g2:=fp ⟨tx,ty⟩ ⟨vx,vy⟩;simp only at g0 g1 g2;cases h0:qc sx sy ux uy tx ty vx vy with
  |true=>
   rw[h0]at g0;rw[if_pos (of_decide_eq_true g0.symm)];exact meets_same ax ay bx bY cx cy dx dy _ _ _ _ _ _ _ _ w hn hs' ht' h0
  |false=>
   rw[h0]at g0;rw[if_neg (of_decide_eq_false g0.symm)];cases h1:dO sx sy ux uy with
   |true=>
    rw[h1]at g1;rw[if_pos (.inl (of_decide_eq_true g1.symm))];exact CB ax ay bx bY cx cy dx dy _ _ _ _ _ _ _ _ w hn hs' ht' h0 h1
   |false=>
    rw[h1]at g1;have g1':=of_decide_eq_false g1.symm;cases h2:dO tx ty vx vy with
    |true=>
     rw[h2]at g2;rw[if_pos (.inr (.inl (of_decide_eq_true g2.symm)))];exact CC ax ay bx bY cx cy dx dy _ _ _ _ _ _ _ _ w hn hs' ht' h0 h1 h2
    |false=>
     rw[h2]at g2;have g2':=of_decide_eq_false g2.symm;by_cases h3:ah ⟨sx,sy⟩ ⟨ux,uy⟩ ⟨tx,ty⟩=0
     ·by_cases h4:ah ⟨sx,sy⟩ ⟨ux,uy⟩ ⟨vx,vy⟩=0
      ·rw[if_pos (.inr (.inr ⟨h3,h4⟩))];exact CD ax ay bx bY cx cy dx dy _ _ _ _ _ _ _ _ w hn hs' ht' h0 h1 h2 h3 h4
      ·rw[if_neg (by simp[g1',g2',h4])];exact Fp ax ay bx bY cx cy dx dy _ _ _ _ _ _ _ _ w hn hs' ht' h0 h1 h2 (by simpa using h3) (by simpa using h4)
     ·rw[if_neg (by simp[g1',g2',h3])];exact Fo ax ay bx bY cx cy dx dy _ _ _ _ _ _ _ _ w hn hs' ht' h0 h1 h2 (by simpa using h3)
end Go.Proofs.YtfkgjbdeicggaaaGreat
namespace Go.Proofs.YtfkgjbdeicggaaaGreat
open Go.RowKit Go.Proofs.Pg Go.Proofs.Pto
def Jo(W:World)(g o:Nat)(l:List Sg):Prop:=∀(i:Nat) s,l[i]? =some s→W.cell? ⟨g,o+i*4,none⟩=some (.int .i64 s.a.x)∧W.cell? ⟨g,o+i*4+1,none⟩=some (.int .i64 s.a.y)∧W.cell? ⟨g,o+i*4+2,none⟩=some (.int .i64 s.b.x)∧W.cell? ⟨g,o+i*4+3,none⟩=some (.int .i64 s.b.y)
def Bd(W:World)(v:Value)(l:List Sg):Prop:=∃A c,v= .slice A l.length c∧(l=[]∨∃g o,A=some ⟨g,o,none⟩∧g<W.heap.size∧Jo W g o l)
theorem Jo.below{W W':World}{g o:Nat}{l:List Sg}(h:Jo W g o l)(hg:g<W.heap.size)(hb:Below W.heap.size W W'):Jo W' g o l:=fun i s hs=>by
 obtain⟨h1,h2,h3,h4⟩:=h i s hs;exact⟨(hb.cell (p:=⟨g,_,none⟩) hg).trans h1,(hb.cell (p:=⟨g,_,none⟩) hg).trans h2,(hb.cell (p:=⟨g,_,none⟩) hg).trans h3,(hb.cell (p:=⟨g,_,none⟩) hg).trans h4⟩
theorem Bd.below{W W':World}{v:Value}{l:List Sg}(h:Bd W v l)(hb:Below W.heap.size W W'):Bd W' v l:=by
 obtain⟨A,c,hv,h⟩:=h;refine⟨A,c,hv,?_⟩;rcases h with h|⟨g,o,hA,hg,hp⟩
 ·exact .inl h
 ·exact .inr ⟨g,o,hA,Nat.lt_of_lt_of_le hg hb.size,hp.below hg hb⟩
def IH:It:=⟨0,⟨⟨0,0⟩,⟨0,0⟩⟩⟩
theorem GX:bB IH=[.int .i64 0,.int .i64 0,.int .i64 0,.int .i64 0,.int .i64 0,.int .i64 0,.int .i64 0,.int .i64 0,.int .i64 0]:=rfl
theorem Fq(n:Nat):(List.replicate n IH).flatMap bB=List.replicate (n*9) (.int .i64 0):=by
 induction n with
 |zero=>rfl
 |succ n ih=>
  rw[List.replicate_succ,List.flatMap_cons,ih,GX,Nat.succ_mul,Nat.add_comm,←List.replicate_append_replicate];rfl
theorem zb(k:Nat)(l m:List Sg):cP k (l++m)=cP k l++cP (k+l.length) m:=by
 induction l generalizing k with
 |nil=>simp[cP]
 |cons s l ih=>simp only[List.cons_append,cP,ih,List.length_cons];rw[show k+1+l.length=k+(l.length+1)by omega]
theorem iU(k:Nat)(l:List Sg):(cP k l).length=l.length:=by
 induction l generalizing k with
 |nil=>rfl
 |cons s l ih=>simp[cP,ih]
def gY(l:List Sg)(k:Nat):List It:=cP 0 (l.take k)++List.replicate (l.length-k) IH
theorem zc(l:List Sg):gY l 0=List.replicate l.length IH:=by simp[gY,cP]
theorem uu{l:List Sg}{n:Nat}(h:l.length=n):gY l 0=List.replicate n IH:=by rw[←h];exact zc l
theorem CE(l:List Sg):gY l l.length=cP 0 l:=by simp[gY]
theorem CF{l:List Sg}{k:Nat}(hk:k≤l.length):(gY l k).length=l.length:=by
 unfold gY;rw[List.length_append,iU,List.length_take,List.length_replicate];omega
theorem Fs{l:List Sg}{k:Nat}(hk:k<l.length):(gY l k)[k]? =some IH:=by
 unfold gY;have hl:(cP 0 (l.take k)).length=k:=by rw[iU,List.length_take];omega
 rw[List.getElem?_append_right O9,hl,Nat.sub_self,List.getElem?_replicate,if_pos O9]
theorem CG{l:List Sg}{k:Nat}{s:Sg}(hs:l[k]? =some s):(gY l k).set k ⟨k,s⟩=gY l (k+1):=by
 have hk:k<l.length:=(List.getElem?_eq_some_iff.1 hs).1;unfold gY;have hl:(cP 0 (l.take k)).length=k:=by rw[iU,List.length_take];omega
 rw[List.set_append_right _ _ O9,hl,Nat.sub_self,List.take_add_one,hs];rw[show l.length-k=(l.length-(k+1))+1 by omega,List.replicate_succ,List.set_cons_zero];have:(l.take k).length=k:=by rw[List.length_take];omega
 simp only[Option.toList_some,zb,cP,this,Nat.zero_add,List.append_assoc,List.singleton_append]
theorem CH:(Tryz.prog.info? 135).map (fun i=>(i.zero,i.size,i.bytes))=some (some (.agg #[.int .i64 0,.int .i64 0,.int .i64 0,.int .i64 0,.int .i64 0,.int .i64 0,.int .i64 0,.int .i64 0,.int .i64 0]),9,72):=K9
theorem aM{P:Program}{t:TypeId}{z:Option Value}{n m:Nat}(h:(P.info? t).map (fun i=>(i.zero,i.size,i.bytes))=some (z,n,m)):∃i,P.info? t=some i∧i.zero=z∧i.size=n∧i.bytes=m:=by
 obtain⟨i,hi,he⟩:=Option.map_eq_some_iff.1 h;simp only[Prod.mk.injEq]at he;exact⟨i,hi,he.1,he.2.1,he.2.2⟩
theorem ze(n:Nat):(madeCells (Value.agg #[.int .i64 0,.int .i64 0,.int .i64 0,.int .i64 0,.int .i64 0,.int .i64 0,.int .i64 0,.int .i64 0,.int .i64 0]).cells (n*9)).toList=(List.replicate n IH).flatMap bB:=by
 rw[Fq,List.eq_replicate_iff];refine⟨by simp[madeCells],fun b hb=>?_⟩;unfold madeCells at hb;rw[Array.toList_map,List.mem_map]at hb;obtain⟨i,_,rfl⟩:=hb;have hm:i%9<9:=Nat.mod_lt _ (by decide);show(#[Value.int .i64 0,.int .i64 0,.int .i64 0,.int .i64 0,.int .i64 0,.int .i64 0,.int .i64 0,.int .i64 0,.int .i64 0]:Array Value)[i%9]! =_;rcases(by omega:i%9=0∨i%9=1∨i%9=2∨i%9=3∨i%9=4∨i%9=5∨i%9=6∨i%9=7∨i%9=8)with h|h|h|h|h|h|h|h|h<;>rw[h]<;>rfl
structure DN(w:World)(B g n bx:Nat)(s:Sg)(M:List It)(W:World):Prop where
 row:W.ownsRow B 135 9 (.slice (some ⟨g,0,none⟩) n n) n (M.flatMap bB)
 box:W.heap[bx]? =some (.cells #[.int .i64 s.a.x,.int .i64 s.a.y,.int .i64 s.b.x,.int .i64 s.b.y] 68 (0,0))
 below:Below w.heap.size w W
 ne:bx≠g
 ge:w.heap.size≤g
theorem DN.step{w:World}{B g n bx:Nat}{s:Sg}{M:List It}{W W':World}(h:DN w B g n bx s M W)(hg:Below W.heap.size W W'):DN w B g n bx s M W':=
 ⟨gS h.row hg,(hg.block bx (Array.getElem?_eq_some_iff.1 h.box).1).trans h.box,h.below.trans (hg.mono h.below.size),h.ne,h.ge⟩
theorem DN.put{w:World}{B g n bx:Nat}{s:Sg}{M:List It}{W:World}(h:DN w B g n bx s M W){i:Nat}(hi:i<M.length)(x:It):DN w B g n bx s (M.set i x) (wV W g i x):=by
 obtain⟨p1,p2⟩:=wW h.row hi x;have hge:=h.ge;exact⟨p1,(p2.block bx (Array.getElem?_eq_some_iff.1 h.box).1 (fun e=>by cases e;exact h.ne rfl)).trans h.box,⟨p2.os.trans h.below.os,p2.tape.trans h.below.tape,p2.output.trans h.below.output,Nat.le_trans h.below.size p2.size,fun j hj=>(p2.block j (Nat.lt_of_lt_of_le hj h.below.size) (fun e=>by cases e;omega)).trans (h.below.block j hj)⟩,h.ne,hge⟩
theorem DN.cells{w:World}{B g n bx:Nat}{s:Sg}{M:List It}{W:World}(h:DN w B g n bx s M W):W.cell? ⟨bx,0,none⟩=some (.int .i64 s.a.x)∧W.cell? ⟨bx,1,none⟩=some (.int .i64 s.a.y)∧W.cell? ⟨bx,2,none⟩=some (.int .i64 s.b.x)∧W.cell? ⟨bx,3,none⟩=some (.int .i64 s.b.y):=
 ⟨cell_of_row W bx 0 _ _ _ h.box,cell_of_row W bx 1 _ _ _ h.box,cell_of_row W bx 2 _ _ _ h.box,cell_of_row W bx 3 _ _ _ h.box⟩
