/-
  Which rings are simple, walked.
-/
import Derived.Test.YtfkgjbdeicggaaaGreatZb
import Derived.Test.YtfkgjbdeicggaaaGreatZm
import Derived.Test.YtfkgjbdeicggaaaGreatZu
set_option maxHeartbeats 8000000
set_option maxRecDepth 100000
namespace Go.Proofs.YtfkgjbdeicggaaaGreat
open Go.RowKit Go.Proofs.Pg Go.Proofs.Pri
attribute [local go_sem] Oper.semAt_some
theorem Jk(B g n0:Nat)(W:World):OwnFrom n0 (fun(_:Unit) W'=>Kr B g W W'):=fun _ _ _ _ h hg hr=>by
 refine⟨Nat.le_trans h.1 hg.size,fun b hb ob hob hc=>?_⟩;have hx:=h.2 b hb ob hob hc;refine(hg.block b (Array.getElem?_eq_some_iff.1 hx).1 (fun e=>?_)).trans hx;obtain⟨_,o,ho,hco⟩:=hr b e.symm;rw[hx]at ho;cases ho;rw[hc]at hco;cases hco
structure zY(w:World)(B3 g o c:Nat)(r:List Pt)(n0:Nat)(W:World):Prop where
 size:n0≤W.heap.size
 rb:W.heap[w.heap.size]? =some (.cells #[.slice (some ⟨g,o,none⟩) r.length c] 49 (0,0))
 res:Boxed W (w.heap.size+1) 4 (.bool false)
 nb:Boxed W B3 3 (.int .i64 r.length)
 below:Below w.heap.size w W
theorem zY.own{w:World}{B3 g o c:Nat}{r:List Pt}{n0 B:Nat}(hB:w.heap.size≤B):OwnFrom B (fun(_:Unit) W=>zY w B3 g o c r n0 W):=fun _ X Y row h hg hr=>
 ⟨Nat.le_trans h.size hg.size,jo h.rb hg (fun r e=>(hr r e).2),jo h.res hg (fun r e=>(hr r e).2),jo h.nb hg (fun r e=>(hr r e).2),ownFrom_below (β:=Unit) (Nat.le_refl _) hB () X Y row h.below hg hr⟩
theorem zY.lift{w:World}{B3 g o c:Nat}{r:List Pt}{n0:Nat}{W W':World}(h:zY w B3 g o c r n0 W)(hb:Below W.heap.size W W'):zY w B3 g o c r n0 W':=
 ⟨Nat.le_trans h.size hb.size,ai hb h.rb,ai hb h.res,ai hb h.nb,aq h.below hb⟩
theorem zY.alloc{w:World}{B3 g o c:Nat}{r:List Pt}{n0:Nat}{W:World}(h:zY w B3 g o c r n0 W)(x:Obj):zY w B3 g o c r n0 (W.alloc x):=
 h.lift ((Below.refl _ _).alloc (Nat.le_refl _) _)
structure Hr(W:World)(Bi Bs:Nat)(x:Sd):Prop where
 i:Boxed W Bi 3 (.int .i64 (x.i:Int))
 s:F' W Bs x.s
theorem Hr.own{Bi Bs:Nat}{x:Sd}{B:Nat}:OwnFrom B (fun(_:Unit) W=>Hr W Bi Bs x):=fun _ _ _ _ h hg hr=>
 ⟨jo h.i hg (fun r e=>(hr r e).2),jo h.s hg (fun r e=>(hr r e).2)⟩
theorem Hr.lift{Bi Bs:Nat}{x:Sd}{W W':World}(h:Hr W Bi Bs x)(hb:Below W.heap.size W W'):Hr W' Bi Bs x:=⟨ai hb h.i,ai hb h.s⟩
structure DC(w W:World)(B3 B4 g o c:Nat)(r:List Pt)(n0 Bi Bs:Nat)(x:Sd)(W':World):Prop where
 b:zY w B3 g o c r n0 W'
 rr:Hr W' Bi Bs x
 kr:Kr B4 g W W'
 kf:KeepsFrom n0 W W'
theorem DC.own{w W:World}{B3 B4 g o c:Nat}{r:List Pt}{n0 Bi Bs:Nat}{x:Sd}{B:Nat}(hB:w.heap.size≤B)(hW:W.heap.size≤B):OwnFrom B (fun(_:Unit) W'=>DC w W B3 B4 g o c r n0 Bi Bs x W'):=fun _ X Y row h hg hr=>
 ⟨zY.own hB () X Y row h.b hg hr,Hr.own () X Y row h.rr hg hr,Jk B4 g B W () X Y row h.kr hg hr,ownFrom_keepsFrom (β:=Unit) hW () X Y row h.kf hg hr⟩
theorem DC.lift{w W:World}{B3 B4 g o c:Nat}{r:List Pt}{n0 Bi Bs:Nat}{x:Sd}{X Y:World}(h:DC w W B3 B4 g o c r n0 Bi Bs x X)(hb:Below X.heap.size X Y):DC w W B3 B4 g o c r n0 Bi Bs x Y:=
 ⟨h.b.lift hb,h.rr.lift hb,h.kr.trans (Kr.below hb),h.kf.trans ((bu hb).from _)⟩
theorem DC.set{w W:World}{B3 B4 g o c:Nat}{r:List Pt}{n0 Bi Bs:Nat}{x:Sd}{X:World}(h:DC w W B3 B4 g o c r n0 Bi Bs x X)(h3:w.heap.size+1<B3)(h4:w.heap.size+1<B4)(hg:g<w.heap.size)(hi:w.heap.size+1<Bi)(hs:w.heap.size+1<Bs):DC w W B3 B4 g o c r n0 Bi Bs x (X.setCell ⟨w.heap.size+1,0,none⟩ (.bool false)):=
 ⟨⟨by have:=h.b.size;simp;omega,ig _ _ h.b.rb O9,Boxed.set _ h.b.res,ig _ _ h.b.nb O9,h.b.below.setCell (by simp) _⟩,⟨ig _ _ h.rr.i O9,ig _ _ h.rr.s O9⟩,h.kr.trans (Kr.set _ _ _ _ O9 O9),h.kf.trans ((KeepsOthers.setCell _ _ _).from _)⟩
def JQ(w W:World)(B3 B4 g o c:Nat)(r:List Pt)(n0 Bi Bs:Nat)(x:Sd)(cd:Code)(pre:List Sd)(W':World):Prop:=
 (cd= .ret∧gU r.length x.v (pre.map Sd.v)=false∨cd= .exit 2∧gU r.length x.v (pre.map Sd.v)=true∧∃y∈pre,x.i≤y.i)∧DC w W B3 B4 g o c r n0 Bi Bs x W'
theorem xS(v:Value)(w:World):∃wa,(w.alloc (.cells #[v] 49)).alloc (.cells #[.bool false] 4)=wa∧wa.heap.size=w.heap.size+2∧Below w.heap.size w wa∧Below w.heap.size w wa∧wa.heap[w.heap.size]? =some (.cells #[v] 49 (0,0))∧Boxed wa (w.heap.size+1) 4 (.bool false):=by
 refine⟨_,rfl,by simp,((Below.refl _ w).alloc (Nat.le_refl _) _).alloc (by simp) _,((Below.refl _ w).alloc (Nat.le_refl _) _).alloc (by simp) _,dU _ (cj _ _ _ rfl),cj _ _ _ (by simp)⟩
theorem DD(r:List Pt)(v:Value)(w:World)(hv:Dz w v r)(hl:r.length≤100000)(hreg:regB r=false):Calls Tryz.prog 16 #[v] w fun e w'=>e= .returned (.bool (simple r))∧Below w.heap.size w w':=by
 have ht:simple r=false:=by unfold simple;rw[hreg];rfl
 rw[ht];obtain⟨wa,hwa,hsz,ba,ba2,a1,a2⟩:=xS v w;have HG:=aa (lC r v wa (hv.below ba) hl);rw[hreg]at HG;obtain⟨A,c,rfl,_⟩:=hv;have d1:=cell_of_row _ _ 0 _ _ _ a1;clear hreg ht;go_enter Tryz.func16,Tryz.ntmps16;go_wp2_with fail;refine(HG.out).mono ?_;rintro _ w1 ⟨rfl,hb⟩;have HW:=aa hwa;clear hwa;have b2:Boxed w1 (w.heap.size+1) 4 (.bool false):=ai hb a2;have d2:=b2.cell;have d3:=b2.frozen;have hbel:=((ba.trans (hb.mono O9)).setCell (p:=⟨w.heap.size+1,0,none⟩) (by simp) (.bool false))
 have c5:=(b2.set (.bool false)).cell;go_wp2_with fail;refine bodyPost_ret (v:=.bool false) ?_ rfl ⟨rfl,hbel⟩;simp[results,Tryz.f16,go_sem,c5]
theorem zZ(r:List Pt)(v:Value)(w:World)(hv:Dz w v r)(hl:r.length≤100000)(hreg:regB r=true):Calls Tryz.prog 16 #[v] w fun e w'=>e= .returned (.bool (simple r))∧Below w.heap.size w w':=by
 obtain⟨hfine,h3⟩:=rN r hreg;have ht:simple r=iZ r.length (sidesL r) (sidesL r):=by unfold simple;rw[hreg];rfl
 rw[ht];obtain⟨wa,hwa,hsz,ba,ba2,a1,a2⟩:=xS v w;have HG:=aa (lC r v wa (hv.below ba) hl);rw[hreg]at HG;have hvv:=hv;obtain⟨A,c,rfl,hA⟩:=hv;obtain⟨g,o,rfl,hg,hp⟩:=hA.resolve_left (by rintro rfl;simp at h3);have HP:=aa hp;have HF:=aa hfine;have d0:=cell_of_row _ _ 0 _ _ _ a1;clear hreg ht hA hp hfine hvv;refine(callsIn_wide (n:=20)).1 ?_;refine callsIn_of_wp_marks Tryz.func16 rfl trivial ?_ rfl
 simp only[Tryz.ntmps16,List.size_toArray,List.length_cons,List.length_nil,Nat.reduceAdd,Nat.reduceSub,Array.replicate_succ,Array.replicate_zero,List.push_toArray,List.append_toArray,List.nil_append,List.cons_append];have hf:Fence.wide.fn 55:=trivial;have hf2:Fence.wide.fn 56:=trivial;gi_wp2_with (first
  |(gi_at_call 55;refine(callsIn_wide.2 HG.out).mono ?_;rintro e w1 ⟨rfl,hb1⟩;have b1:=ai hb1 a1;have b2:Boxed w1 (w.heap.size+1) 4 (.bool false):=ai hb1 a2;have d1:=cell_of_row _ _ 0 _ _ _ b1;have d4:=cell_of_row _ _ 0 _ _ _ (dU (.cells #[.int .i64 r.length] 3) b1);have d2:=b2.cell;have d3:=b2.frozen;clear d0)
  |(gi_at_call 56;refine(callsIn_wide.2 (mV _ _ _ _ rfl _)).mono ?_;rintro e w2 ⟨rfl,rfl⟩))
 have HWA:=aa hwa;clear hwa HG;have hsz1:=hb1.size;have few:=HF.out.few;obtain⟨W0,hW0⟩:∃W0,(w1.alloc (.cells #[.int .i64 r.length] 3)).alloc (.cells #[.slice (some ⟨g,o,none⟩) r.length c] 49)=W0:=⟨_,rfl⟩;have hsz0:W0.heap.size=w1.heap.size+2:=by rw[←hW0];simp
 have q1:zY w w1.heap.size g o c r W0.heap.size W0:=by
  rw[←hW0];refine⟨Nat.le_refl _,dU _ (dU _ b1),(b2.alloc _).alloc _,?_,((ba.trans (hb1.mono O9)).alloc O9 _).alloc (by simp;omega) _⟩;exact(Boxed.new w1 3 (.int .i64 r.length)).alloc _
 have q4:W0.heap[w1.heap.size+1]? =some (.cells #[.slice (some ⟨g,o,none⟩) r.length c] 49 (0,0)):=by rw[←hW0];exact cj _ _ _ (by simp)
 have hrg:Rg (w1.heap.size+1) g o c r W0:=⟨cell_of_row _ _ 0 _ _ _ q4,HP.out.below hg q1.below⟩;rw[hW0];clear hW0 q4 hf b1 b2 d1 d4 d2 d3 a1 a2 ba ba2 hb1;refine wpIn_rangeFunc_ownH rfl O9 (gf:=116) (lb:=#[.pointer (some ⟨w1.heap.size+1,0,none⟩)]) rfl trivial (enters_of Tryz.func116 K9 rfl)
  (lz 19 O9 (w1.heap.size+1) g o c r HF.out O9 W0 hrg) Kr.trans (fun W l o o' _ h1 h2 _=>Kr.putObj W l o o' h1 h2) (Below.refl _ _) (fun _=>rfl)
  (fun pre W=>iZ r.length (sidesL r) (pre.map Sd.v)=true∧zY w w1.heap.size g o c r W0.heap.size W)
  (fun cd pre W=>(cd= .ret∧iZ r.length (sidesL r) (pre.map Sd.v)=false)∧zY w w1.heap.size g o c r W0.heap.size W)
  (OwnFrom.and (ownFrom_pure _ _) (fun _=>zY.own O9 ())) (fun _=>OwnFrom.and (ownFrom_pure _ _) (fun _=>zY.own O9 ())) ⟨rfl,q1⟩
  (fun x a' W=>∃Bi Bs,(W0.heap.size≤Bi∧W0.heap.size≤Bs)∧Hr W Bi Bs x∧a'= { tmps:=#[.slice (some ⟨g,o,none⟩) r.length c,.pointer (some ⟨w.heap.size,0,none⟩),.pointer (some ⟨w.heap.size+1,0,none⟩),.pointer (some ⟨w1.heap.size,0,none⟩),.pointer (some ⟨Bi,0,none⟩),.pointer (some ⟨Bs,0,none⟩),undef,undef,undef,undef,.slice (some ⟨g,o,none⟩) r.length c,.bool true,.bool false,.slice (some ⟨g,o,none⟩) r.length c,.int .i64 r.length,.slice (some ⟨g,o,none⟩) r.length c,.func (.func 116) #[] #[.pointer (some ⟨w1.heap.size+1,0,none⟩)],.int .i64 x.i,.agg #[.int .i64 x.s.a.x,.int .i64 x.s.a.y,.int .i64 x.s.b.x,.int .i64 x.s.b.y],undef,undef,undef,undef,undef,undef,undef,undef,undef,undef,undef,undef,undef,undef,undef,undef,undef,undef,undef,undef,undef,undef,undef,undef,undef,undef,undef,undef,undef,undef,undef,undef,undef,undef,undef],defers:=[]})
  (fun x a' _ X Y row hs hg hr=>by
   obtain⟨Bi,Bs,e1,e2,e3⟩:=hs;exact⟨Bi,Bs,e1,Hr.own () X Y row e2 hg hr,e3⟩)
  ?assign ?body ?done ?stop
 case assign=>
  rintro l pre x W K ⟨h,hb⟩ hK;unfold tA;have hbb:Below W.heap.size W ((W.alloc (.cells #[.int .i64 (x.i:Int)] 3)).alloc (.cells #[.int .i64 x.s.a.x,.int .i64 x.s.a.y,.int .i64 x.s.b.x,.int .i64 x.s.b.y] 68)):=((Below.refl _ _).alloc (Nat.le_refl _) _).alloc (by simp) _;have HBB:=aa hbb;clear hbb;gi_wp2;exact hK _ _ ((bu HBB.out).from _) (Kr.below HBB.out) ⟨h,hb.lift HBB.out⟩ ⟨W.heap.size,W.heap.size+1,⟨hb.size,by have:=hb.size;omega⟩,⟨dU _ (cj _ _ _ rfl),cj _ _ _ (by simp)⟩,rfl⟩
 case body=>
  rintro l pre x a' W hl ⟨rr,hr⟩ ⟨hall,hB⟩ ⟨Bi,Bs,⟨hBi,hBs⟩,hR,rfl⟩ hlt;have cr:=cell_of_row _ _ 0 _ _ _ hB.rb;have hsW:=hB.below.size;have hsn:=hB.size;gi_wp2_with (gi_at_call 56;refine(CallsIn.inRound l (callsIn_wide.2 (mV _ _ _ _ rfl _))).mono ?_;rintro e w' ⟨rfl,rfl⟩);obtain⟨W2,hW2⟩:∃W2,W.alloc (.cells #[.slice (some ⟨g,o,none⟩) r.length c] 49)=W2:=⟨_,rfl⟩;have b2:Below W.heap.size W W2:=by rw[←hW2];exact(Below.refl _ _).alloc (Nat.le_refl _) _
  have hs2:W2.heap.size=W.heap.size+1:=by rw[←hW2];simp
  have q4:W2.heap[W.heap.size]? =some (.cells #[.slice (some ⟨g,o,none⟩) r.length c] 49 (0,0)):=by rw[←hW2];exact cj _ _ _ rfl
  have hrg2:Rg W.heap.size g o c r W2:=⟨cell_of_row _ _ 0 _ _ _ q4,HP.out.below hg (hB.below.trans (b2.mono hsW))⟩;have hr':W2.heap[l]? =some (.loop rr):=(b2.block l (Array.getElem?_eq_some_iff.1 hr).1).trans hr;have q2:DC w W w1.heap.size (w1.heap.size+1) g o c r W0.heap.size Bi Bs x W2:=⟨hB.lift b2,hR.lift b2,Kr.below b2,(bu b2).from _⟩;rw[hW2];clear hW2 q4 cr hr
  refine wpIn_rangeFunc_ownN (l₀:=l) (r₀:=rr) rfl hr' O9 (gf:=116) (lb:=#[.pointer (some ⟨W.heap.size,0,none⟩)]) rfl trivial (enters_of Tryz.func116 K9 rfl)
   ((lz (20-1-1-1) O9 W.heap.size g o c r HF.out O9 W2 hrg2).inRound l) Kr.trans (fun W l o o' _ h1 h2 _=>Kr.putObj W l o o' h1 h2) (Below.refl _ _) (fun _=>rfl)
   (fun pre' W'=>gU r.length x.v (pre'.map Sd.v)=true∧DC w W w1.heap.size (w1.heap.size+1) g o c r W0.heap.size Bi Bs x W')
   (fun cd pre' W'=>JQ w W w1.heap.size (w1.heap.size+1) g o c r W0.heap.size Bi Bs x cd pre' W')
   (OwnFrom.and (ownFrom_pure _ _) (fun _=>DC.own O9 O9 ()))
   (fun _ _ X Y row h hg hr=>⟨h.1,DC.own O9 O9 () X Y row h.2 hg hr⟩) ⟨rfl,q2⟩
   (fun y a'' W'=>∃Bt,W.heap.size≤Bt∧F' W' Bt y.s∧a''= { tmps:=#[.slice (some ⟨g,o,none⟩) r.length c,.pointer (some ⟨w.heap.size,0,none⟩),.pointer (some ⟨w.heap.size+1,0,none⟩),.pointer (some ⟨w1.heap.size,0,none⟩),.pointer (some ⟨Bi,0,none⟩),.pointer (some ⟨Bs,0,none⟩),.int .i64 y.i,.pointer (some ⟨Bt,0,none⟩),undef,undef,.slice (some ⟨g,o,none⟩) r.length c,.bool true,.bool false,.slice (some ⟨g,o,none⟩) r.length c,.int .i64 r.length,.slice (some ⟨g,o,none⟩) r.length c,.func (.func 116) #[] #[.pointer (some ⟨w1.heap.size+1,0,none⟩)],.int .i64 x.i,.agg #[.int .i64 x.s.a.x,.int .i64 x.s.a.y,.int .i64 x.s.b.x,.int .i64 x.s.b.y],.slice (some ⟨g,o,none⟩) r.length c,.func (.func 116) #[] #[.pointer (some ⟨W.heap.size,0,none⟩)],.int .i64 y.i,.agg #[.int .i64 y.s.a.x,.int .i64 y.s.a.y,.int .i64 y.s.b.x,.int .i64 y.s.b.y],undef,undef,undef,undef,undef,undef,undef,undef,undef,undef,undef,undef,undef,undef,undef,undef,undef,undef,undef,undef,undef,undef,undef,undef,undef,undef,undef,undef,undef,undef,undef],defers:=[]})
   (fun y a'' _ X Y row hs hg hr=>by
    obtain⟨Bt,e1,e2,e3⟩:=hs;exact⟨Bt,e1,jo e2 hg (fun r e=>(hr r e).2),e3⟩)
   ?assign2 ?body2 ?done2 ?stop2
  case assign2=>
   rintro l2 pre' y W' K ⟨hrow,hI⟩ hK;unfold tA;have hbb:Below W'.heap.size W' (W'.alloc (.cells #[.int .i64 y.s.a.x,.int .i64 y.s.a.y,.int .i64 y.s.b.x,.int .i64 y.s.b.y] 68)):=(Below.refl _ _).alloc (Nat.le_refl _) _;have HBB:=aa hbb;clear hbb;gi_wp2;exact hK _ _ ((bu HBB.out).from _) (Kr.below HBB.out) ⟨hrow,hI.lift HBB.out⟩ ⟨W'.heap.size,hI.kr.1,cj _ _ _ rfl,rfl⟩
  case body2=>
   rintro l2 pre' y a'' W' _ _ ⟨hrow,hI⟩ ⟨Bt,hBt,hT,rfl⟩ _;have ci:=hI.rr.i.cell;obtain⟨⟨s1,s2,s3,s4⟩,_⟩:=aE hI.rr.s;obtain⟨⟨t1,t2,t3,t4⟩,_⟩:=aE hT;have hx:=x.hi;have hy:=y.hi;by_cases hge:x.i≤y.i
   ·(have hge':(x.i:Int)≤y.i:=by omega);have hrow':gU r.length x.v ((pre'++[y]).map Sd.v)=true:=by
     rw[List.map_append,nh,hrow];have:decide (x.v.1≤y.v.1)=true:=decide_eq_true hge;simp[gU,this]
    have HR2:=aa hrow';have HI:=aa hI;clear hrow hrow' hall hI;gi_wp2;exact⟨KeepsFrom.refl _ _,.inr ⟨rfl,HR2.out,y,by simp,hge⟩,HI.out⟩
   ·(have hge':¬(x.i:Int)≤y.i:=by omega);have hrow':gU r.length x.v ((pre'++[y]).map Sd.v)=qh r.length x.v y.v:=by
     rw[List.map_append,nh,hrow];have:decide (x.v.1≤y.v.1)=false:=decide_eq_false hge;simp[gU,this]
    have HM:=aa (sO x.s.a.x x.s.a.y x.s.b.x x.s.b.y y.s.a.x y.s.a.y y.s.b.x y.s.b.y W');have hst:(⟨⟨x.s.a.x,x.s.a.y⟩,⟨x.s.b.x,x.s.b.y⟩⟩:Sg)=x.s:=rfl;have hst2:(⟨⟨y.s.a.x,y.s.a.y⟩,⟨y.s.b.x,y.s.b.y⟩⟩:Sg)=y.s:=rfl;rw[hst,hst2]at HM;obtain⟨m,hm⟩:∃m,meets x.s y.s=m:=⟨_,rfl⟩;(have hpair:qh r.length x.v y.v=if Gk r.length x.i y.i then decide (m=1)else decide (m=0):=by rw[←hm];rfl);rw[hpair]at hrow';rw[hm]at HM;have HI:=aa hI;have HR2:=aa hrow'
    have hcase:(((x.i:Int)-y.i ==1)=true∧(((x.i:Int)-y.i ==1)=true)∧Gk r.length x.i y.i=true)∨(((x.i:Int)-y.i ==1)=false∧((x.i:Int)-y.i ==(r.length:Int)-1)=true∧Gk r.length x.i y.i=true)∨(((x.i:Int)-y.i ==1)=false∧((x.i:Int)-y.i ==(r.length:Int)-1)=false∧Gk r.length x.i y.i=false):=by
     unfold Gk;by_cases e1:(x.i:Int)-y.i=1
     ·exact .inl ⟨beq_iff_eq.2 e1,beq_iff_eq.2 e1,by rw[decide_eq_true e1];rfl⟩
     ·by_cases e2:(x.i:Int)-y.i=(r.length:Int)-1
      ·exact .inr (.inl ⟨beq_eq_false_iff_ne.2 e1,beq_iff_eq.2 e2,by rw[decide_eq_false e1,decide_eq_true e2];rfl⟩)
      ·exact .inr (.inr ⟨beq_eq_false_iff_ne.2 e1,beq_eq_false_iff_ne.2 e2,by rw[decide_eq_false e1,decide_eq_false e2];rfl⟩)
    clear hst hst2 hpair hrow hrow' hall hm hI;rcases hcase with⟨k1,k2,k3⟩|⟨k1,k2,k3⟩|⟨k1,k2,k3⟩
    ·have HK:=aa k3;clear k3;by_cases e:m=1
     ·subst e;gi_wp2_with (refine⟨trivial,?_⟩;gi_at_call 25;refine(CallsIn.inRound l2 (CallsIn.inRound l (callsIn_wide.2 HM.out))).mono ?_;rintro e w5 ⟨rfl,hb5⟩;have HB5:=aa hb5;have hI5:=HI.out.lift hb5;have c1:=hI5.rr.i.cell;have c2:=hI5.b.nb.cell;have c3:=hI5.b.res.cell;have c4:=hI5.b.res.frozen;have HI5:=aa hI5;clear hb5 hI5);exact⟨(bu HB5.out).from _,Kr.below HB5.out,by rw[HR2.out,HK.out];rfl,HI5.out⟩
     ·(have e1:(m ==1)=false:=by simpa using e);(have e2:(m != 1)=true:=by simpa using e);have HE:=aa e;clear e;gi_wp2_with (refine⟨trivial,?_⟩;gi_at_call 25;refine(CallsIn.inRound l2 (CallsIn.inRound l (callsIn_wide.2 HM.out))).mono ?_;rintro e w5 ⟨rfl,hb5⟩;have HB5:=aa hb5;have hI5:=HI.out.lift hb5;have c1:=hI5.rr.i.cell;have c2:=hI5.b.nb.cell;have c3:=hI5.b.res.cell;have c4:=hI5.b.res.frozen;have HI5:=aa hI5;clear hb5 hI5)
      exact⟨((bu HB5.out).trans (KeepsOthers.setCell _ _ _)).from _,.inl ⟨rfl,by rw[HR2.out,HK.out];exact decide_eq_false HE.out⟩,HI5.out.set O9 O9 hg O9 O9⟩
    ·have HK:=aa k3;clear k3;by_cases e:m=1
     ·subst e;gi_wp2_with (refine⟨trivial,?_⟩;gi_at_call 25;refine(CallsIn.inRound l2 (CallsIn.inRound l (callsIn_wide.2 HM.out))).mono ?_;rintro e w5 ⟨rfl,hb5⟩;have HB5:=aa hb5;have hI5:=HI.out.lift hb5;have c1:=hI5.rr.i.cell;have c2:=hI5.b.nb.cell;have c3:=hI5.b.res.cell;have c4:=hI5.b.res.frozen;have HI5:=aa hI5;clear hb5 hI5);exact⟨(bu HB5.out).from _,Kr.below HB5.out,by rw[HR2.out,HK.out];rfl,HI5.out⟩
     ·(have e1:(m ==1)=false:=by simpa using e);(have e2:(m != 1)=true:=by simpa using e);have HE:=aa e;clear e;gi_wp2_with (refine⟨trivial,?_⟩;gi_at_call 25;refine(CallsIn.inRound l2 (CallsIn.inRound l (callsIn_wide.2 HM.out))).mono ?_;rintro e w5 ⟨rfl,hb5⟩;have HB5:=aa hb5;have hI5:=HI.out.lift hb5;have c1:=hI5.rr.i.cell;have c2:=hI5.b.nb.cell;have c3:=hI5.b.res.cell;have c4:=hI5.b.res.frozen;have HI5:=aa hI5;clear hb5 hI5)
      exact⟨((bu HB5.out).trans (KeepsOthers.setCell _ _ _)).from _,.inl ⟨rfl,by rw[HR2.out,HK.out];exact decide_eq_false HE.out⟩,HI5.out.set O9 O9 hg O9 O9⟩
    ·have HK:=aa k3;clear k3;by_cases e:m=0
     ·subst e;gi_wp2_with (refine⟨trivial,?_⟩;gi_at_call 25;refine(CallsIn.inRound l2 (CallsIn.inRound l (callsIn_wide.2 HM.out))).mono ?_;rintro e w5 ⟨rfl,hb5⟩;have HB5:=aa hb5;have hI5:=HI.out.lift hb5;have c1:=hI5.rr.i.cell;have c2:=hI5.b.nb.cell;have c3:=hI5.b.res.cell;have c4:=hI5.b.res.frozen;have HI5:=aa hI5;clear hb5 hI5);exact⟨(bu HB5.out).from _,Kr.below HB5.out,by rw[HR2.out,HK.out];rfl,HI5.out⟩
     ·(have e1:(m ==0)=false:=by simpa using e);(have e2:(m != 0)=true:=by simpa using e);have HE:=aa e;clear e;gi_wp2_with (refine⟨trivial,?_⟩;gi_at_call 25;refine(CallsIn.inRound l2 (CallsIn.inRound l (callsIn_wide.2 HM.out))).mono ?_;rintro e w5 ⟨rfl,hb5⟩;have HB5:=aa hb5;have hI5:=HI.out.lift hb5;have c1:=hI5.rr.i.cell;have c2:=hI5.b.nb.cell;have c3:=hI5.b.res.cell;have c4:=hI5.b.res.frozen;have HI5:=aa hI5;clear hb5 hI5)
      exact⟨((bu HB5.out).trans (KeepsOthers.setCell _ _ _)).from _,.inl ⟨rfl,by rw[HR2.out,HK.out];exact decide_eq_false HE.out⟩,HI5.out.set O9 O9 hg O9 O9⟩
  case done2=>
   rintro ys W' hS ⟨hrow,hI⟩;rw[hS]at hrow;have hall':iZ r.length (sidesL r) ((pre++[x]).map Sd.v)=true:=by
    rw[List.map_append,nk,hall];simp[iZ,hrow]
   have HI:=aa hI;have HA:=aa hall';clear hrow hall' hall hI;gi_wp2;exact⟨HI.out.kf,HI.out.kr,HA.out,HI.out.b⟩
  case stop2=>
   rintro cd pre' W' hS ⟨hcd,hI⟩;have HI:=aa hI;rcases hcd with⟨rfl,hrow⟩|⟨rfl,hrow,y,hy,hxy⟩
   ·have hall':iZ r.length (sidesL r) ((pre++[x]).map Sd.v)=false:=by
     rw[List.map_append,nk,hall];simp[iZ,uW _ _ _ _ hS hrow]
    have HA:=aa hall';clear hrow hall' hall hI hS;gi_wp2;exact⟨HI.out.kf,⟨rfl,HA.out⟩,HI.out.b⟩
   ·have hrow2:gU r.length x.v (sidesL r)=true:=by
     obtain⟨h1,h2⟩:=uV _ _ hS;rw[h1]at hrow;refine uU _ _ _ _ h2 ?_ hrow;have:=D9 r _ y.v (by rw[←h1];exact List.mem_map_of_mem hy);have e1:y.v.1=y.i:=rfl;have e2:x.v.1=x.i:=rfl;omega
    have hall':iZ r.length (sidesL r) ((pre++[x]).map Sd.v)=true:=by
     rw[List.map_append,nk,hall];simp[iZ,hrow2]
    have HA:=aa hall';clear hrow hrow2 hall' hall hI hS;gi_wp2;exact⟨HI.out.kf,HI.out.kr,HA.out,HI.out.b⟩
 case done=>
  rintro D xs W hD hS ⟨hall,hB⟩ hK;have c0:=hB.res.cell;have f0:=hB.res.frozen;rw[hS]at hall;have HA:=aa hall;have hK':=(KeepsOthers.setCell W ⟨w.heap.size+1,0,none⟩ (.bool true)).same D _ hK rfl;have d0:=cell_kept (hB.res.set (.bool true)).cell (grownBy_putObj' _ D (.deferred none)) (fun r e=>by cases e;exact⟨_,hK',rfl⟩);have hbel:=hB.below.setCell (p:=⟨w.heap.size+1,0,none⟩) (by simp) (.bool true);have HK:=aa hK';clear hall hS hK hK';gi_wp2;refine⟨by simp,.inl ⟨_,_,rfl,run_takeDeferred HK.out,?_⟩⟩
  refine⟨.bool true,?_,by rw[HA.out],hbel.trans (belowK_b (w:=w) (Nat.le_refl _) _ D _ _ O9 HK.out rfl rfl)⟩;simp[results,Tryz.f16,go_sem,d0]
 case stop=>
  rintro D cd pre W hD hS ⟨⟨rfl,hall⟩,hB⟩ hK;have hno:iZ r.length (sidesL r) (sidesL r)=false:=uX _ _ _ _ hS hall;have d0:=cell_kept hB.res.cell (grownBy_putObj' _ D (.deferred none)) (fun r e=>by cases e;exact⟨_,hK,rfl⟩);have HN:=aa hno;have HK:=aa hK;have hbel:=hB.below;clear hno hall hS hK;gi_wp2;refine⟨by simp,.inl ⟨_,_,rfl,run_takeDeferred HK.out,?_⟩⟩;refine⟨.bool false,?_,by rw[HN.out],hbel.trans (belowK_b (w:=w) (Nat.le_refl _) _ D _ _ O9 HK.out rfl rfl)⟩;simp[results,Tryz.f16,go_sem,d0]
theorem z7(r:List Pt)(v:Value)(w:World)(hv:Dz w v r)(hl:r.length≤100000):Calls Tryz.prog 16 #[v] w fun e w'=>e= .returned (.bool (simple r))∧Below w.heap.size w w':=by
 cases hreg:regB r with
 |false=>exact DD r v w hv hl hreg
 |true=>exact zZ r v w hv hl hreg
end Go.Proofs.YtfkgjbdeicggaaaGreat
namespace Go.Proofs.Pf
open Go Go.Proofs.Pg Go.Proofs.Px Go.Proofs.Pn Go.Proofs.Pto
def kB(l:List Ob)(outs rims:List (List BA))(at':List BA→Nat)(r:List BA)(k:Nat):Int:=sl (fun i=>(if fk l r (aS (outs.getD i []) 0,aS (outs.getD i []) 1)=true then 1 else 0)*yG l outs rims at' i) (List.range k)
section
variable {κ:Type} {l:List Ob} {nb:BA→List BA} {P:BA→κ} {outs rims:List (List BA)} {at':List BA→Nat} {r:List BA}
theorem jN(k:Nat):kB l outs rims at' r (k+1)=kB l outs rims at' r k+(if fk l r (aS (outs.getD k []) 0,aS (outs.getD k []) 1)=true then yG l outs rims at' k else 0):=by
 unfold kB;rw[List.range_succ,fi];congr 1;simp only[sl,Int.add_zero];split<;>omega
theorem uM(h:gV l nb P outs rims)(hm:aZ l=true)(c:¬dA l)(a:∀R∈rims,pV l P outs (aS R 0) (at' R)):∀n,∀k,k+n=outs.length→0≤kB l outs rims at' r k∧kB l outs rims at' r k≤kB l outs rims at' r outs.length
 |0,k,e=>by
  have f:k=outs.length:=O9;subst f;refine⟨?_,Int.le_refl _⟩;have key:∀m,m≤outs.length→0≤kB l outs rims at' r m:=by
   intro m;induction m with
   |zero=>intro _;exact Int.le_refl _
   |succ m b=>
    intro d;rw[jN];have:=b O9;have:=h.face_pos hm c a (i:=m) O9;split<;>omega
  exact key _ (Nat.le_refl _)
 |n+1,k,e=>by
  have b:=uM h hm c a n (k+1) O9;have hp:=h.face_pos hm c a (i:=k) O9;have key:∀m,m≤outs.length→0≤kB l outs rims at' r m:=by
   intro m;induction m with
   |zero=>intro _;exact Int.le_refl _
   |succ m b=>
    intro d;rw[jN];have:=b O9;have:=h.face_pos hm c a (i:=m) O9;split<;>omega
  refine⟨key k O9,Int.le_trans ?_ b.2⟩;rw[jN];split<;>omega
theorem xT(h:gV l nb P outs rims)(hm:aZ l=true)(b:¬dA l)(a:∀R∈rims,pV l P outs (aS R 0) (at' R))(hr:nD l r):kB l outs rims at' r outs.length=max (tw (aw l r)) (-tw (aw l r)):=h.area_sum hm b a hr
end
theorem z8{l:List Ob}{o:Ob}(hm:aZ l=true)(b:o∈l)(a:o.kind=3)(d:o.refs.all (isNode l)=true):cG l o=true:=by
 have hr:=tX hm b a d;have c:o.refs≠[]:=fun e=>by have:=hr.three;rw[e]at this;simp at this
 have f:0<o.refs.length:=List.length_pos_iff.2 c;have hb:bC (sideAt o 0)∈bU l o:=by
  unfold bU;rw[if_pos ⟨.inr a,d⟩,bw,List.mem_map];exact⟨0,List.mem_range.2 (by unfold br;rw[if_pos a];exact f),rfl⟩
 have hp:bC (sideAt o 0)∈af l:=by
  rw[df,fX,List.mem_flatMap];exact⟨o,b,hb⟩
 unfold cG Bn;rw[Bool.and_eq_true,decide_eq_true_eq];refine⟨a,?_⟩;rw[List.any_eq_true];exact⟨_,List.mem_map.2 ⟨_,hp,rfl⟩,(fW _ _).2 (iH.2 ⟨o,b,hb,rfl⟩)⟩
theorem Bw{l:List Ob}{outs:List (List BA)}{i:Nat}{s:BA}(h:s∈tl l l outs (i+1)):∃o∈l,cG l o=true∧fk l o.refs (aS (outs.getD i []) 0,aS (outs.getD i []) 1)=true∧o.id=s:=by
 obtain⟨o,a,e⟩:=List.mem_map.1 (show s∈(l.filter fun o=>cG l o&&fk l o.refs (aS (outs.getD i []) 0,aS (outs.getD i []) 1)).map (·.id)from h);rw[List.mem_filter,Bool.and_eq_true]at a;exact⟨o,a.1,a.2.1,a.2.2,e⟩
theorem By{l:List Ob}(hm:aZ l=true){outs:List (List BA)}{i:Nat}{o:Ob}(a:o∈l)(b:cG l o=true):o.id∈tl l l outs (i+1)↔fk l o.refs (aS (outs.getD i []) 0,aS (outs.getD i []) 1)=true:=by
 constructor
 ·intro h;obtain⟨f,c,_,d,e⟩:=Bw h;have:=(bP hm).eq c a e;subst this;exact d
 ·intro h;refine List.mem_map.2 ⟨o,List.mem_filter.2 ⟨a,?_⟩,rfl⟩;rw[b,h];rfl
theorem IP{l:List Ob}(hm:aZ l=true){outs:List (List BA)}{k:Nat}:(tl l l outs k).Nodup:=by
 match k with
 |0=>exact List.nodup_nil
 |i+1=>
  have hu:uniq (l.filter fun o=>cG l o&&fk l o.refs (aS (outs.getD i []) 0,aS (outs.getD i []) 1)):=(bP hm).filter _;show(List.map Ob.id _).Nodup;exact List.pairwise_map.2 hu
theorem DE{l:List Ob}(hm:aZ l=true){outs rims:List (List BA)}{at':List BA→Nat}{k:Nat}{o:Ob}(d:o∈l)(e:cG l o=true){T:Int}(b:k=0∨T=yG l outs rims at' (k-1)):kB l outs rims at' o.refs (k-1)+(if o.id∈tl l l outs k then T else 0)=kB l outs rims at' o.refs k∨(k=0∧True):=by
 match k,b with
 |0,_=>exact .inr ⟨rfl,trivial⟩
 |i+1,b=>
  have c:T=yG l outs rims at' i:=by rcases b with h|h;omega;exact h
  refine .inl ?_;rw[jN,show i+1-1=i from rfl];congr 1;by_cases a:fk l o.refs (aS (outs.getD i []) 0,aS (outs.getD i []) 1)=true
  ·rw[if_pos ((By hm d e).2 a),if_pos a,c]
  ·rw[if_neg (fun h=>a ((By hm d e).1 h)),if_neg a]
