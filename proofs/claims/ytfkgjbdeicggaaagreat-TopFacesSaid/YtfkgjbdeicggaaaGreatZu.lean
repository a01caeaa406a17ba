/-
  The iterator over a ring's sides, walked inside the wide fence.
-/
import Derived.Test.YtfkgjbdeicggaaaGreatZA
import Derived.LoopIn
import Derived.LoopNIn
import Derived.OwnWalkIn
import Derived.RangeFuncBound
import Derived.RangeFuncNested
import Derived.Shelf.RegionOpen
set_option maxHeartbeats 4000000
set_option maxRecDepth 100000
namespace Go.Proofs.YtfkgjbdeicggaaaGreat
open Go.RowKit Go.Proofs.Pg Go.Proofs.Pri
attribute [local go_sem] Oper.semAt_some
def tA(x:Sd):Array Value:=#[.int .i64 (x.i:Int),.agg #[.int .i64 x.s.a.x,.int .i64 x.s.a.y,.int .i64 x.s.b.x,.int .i64 x.s.b.y]]
def vp(p:Pt):Value:=.agg #[.int .i64 p.x,.int .i64 p.y]
def Dx(W:World)(g o:Nat)(r:List Pt):Prop:=∀i p,r[i]? =some p→W.cell? ⟨g,o+i*2,none⟩=some (.int .i64 p.x)∧W.cell? ⟨g,o+i*2+1,none⟩=some (.int .i64 p.y)
theorem Dx.below{W W':World}{g o n₀:Nat}{r:List Pt}(h:Dx W g o r)(hg:g<n₀)(hb:Below n₀ W W'):Dx W' g o r:=
 fun i p hp=>⟨(hb.cell (p:=⟨g,_,none⟩) hg).trans (h i p hp).1,(hb.cell (p:=⟨g,_,none⟩) hg).trans (h i p hp).2⟩
theorem uL{W:World}{b i:Nat}{v:Value}(h:W.cell? ⟨b,i,none⟩=some v):b<W.heap.size:=by
 obtain⟨_,h1,_⟩:=cells_of_cell h;exact(Array.getElem?_eq_some_iff.1 h1).1
structure Rg(B g o c:Nat)(r:List Pt)(W:World):Prop where
 box:W.cell? ⟨B,0,none⟩=some (.slice (some ⟨g,o,none⟩) r.length c)
 pts:Dx W g o r
theorem Rg.below{B g o c:Nat}{r:List Pt}{W W':World}(h:Rg B g o c r W)(hg:g<W.heap.size)(hb:Below W.heap.size W W'):Rg B g o c r W':=
 ⟨(hb.cell (p:=⟨B,0,none⟩) (uL h.box)).trans h.box,h.pts.below hg hb⟩
def Kr(B g:Nat)(W W':World):Prop:=W.heap.size≤W'.heap.size∧∀b,(b=B∨b=g)→∀o,W.heap[b]? =some o→o.isCells=true→W'.heap[b]? =some o
theorem Kr.trans{B g:Nat}{X Y Z:World}(h:Kr B g X Y)(k:Kr B g Y Z):Kr B g X Z:=⟨Nat.le_trans h.1 k.1,fun b hb o ho hc=>k.2 b hb o (h.2 b hb o ho hc) hc⟩
theorem Kr.putObj{B g:Nat}(W:World)(l:Nat)(o o':Obj)(h1:W.heap[l]? =some o)(h2:o.isCells=false):Kr B g W (W.putObj l o'):=by
 have hg:=grownBy_putObj' W l o';refine⟨hg.size,fun b _ ob hob hc=>?_⟩;refine(hg.block b (Array.getElem?_eq_some_iff.1 hob).1 (fun e=>?_)).trans hob;cases e;rw[h1]at hob;cases hob;rw[h2]at hc;cases hc
theorem Kr.below{B g:Nat}{W W':World}(h:Below W.heap.size W W'):Kr B g W W':=⟨h.size,fun b _ _ hob _=>(h.block b (Array.getElem?_eq_some_iff.1 hob).1).trans hob⟩
theorem Kr.set{B g:Nat}(W:World)(b i:Nat)(v:Value)(h1:b≠B)(h2:b≠g):Kr B g W (W.setCell ⟨b,i,none⟩ v):=
 ⟨by simp,fun b' hb' _ hob _=>(Below.heap_setCell W ⟨b,i,none⟩ v b' (by rcases hb' with e|e<;>rw[e]<;>(intro e';first|exact h1 e'.symm|exact h2 e'.symm))).trans hob⟩
theorem Rg.kept{B g o c:Nat}{r:List Pt}{W W':World}(h:Rg B g o c r W)(k:Kr B g W W'):Rg B g o c r W':=by
 have key:∀b i v,(b=B∨b=g)→W.cell? ⟨b,i,none⟩=some v→W'.cell? ⟨b,i,none⟩=some v:=by
  intro b i v hb hv;obtain⟨ob,h1,h2⟩:=cells_of_cell hv;have h3:=k.2 b hb ob h1 h2;exact(World.cell?_of_block (a:=⟨b,i,none⟩) (h3.trans h1.symm)).trans hv
 exact⟨key _ _ _ (.inl rfl) h.box,fun i p hp=>⟨key _ _ _ (.inr rfl) (h.pts i p hp).1,key _ _ _ (.inr rfl) (h.pts i p hp).2⟩⟩
def jn(R:Act→World→Prop):Exit→Act→World→Prop
 | .normal,a,w=>R a w
 |_,_,_=>False
theorem jn.imp{R:Act→World→Prop}{Q:Exit→Act→World→Prop}(h:∀a w,R a w→Q .normal a w):∀e a w,jn R e a w→Q e a w:=fun e a w hh=>by
 cases e<;>first|exact h a w hh|exact(hh:False).elim
theorem F9(n:Nat)(hn:1≤n)(l B g o c:Nat)(r:List Pt)(hr:DU r)(hr1:1≤r.length)(J Jx:List Sd→World→Prop)(W:World)(hJ:AbidesFrom W.heap.size J)
  (hY:∀pre x W1,J pre W1→pre.length<r.length→YieldAt Fence.wide (n-1) Tryz.prog l (tA x) W1 fun e W'=>
   (e= .returned (.bool true)∧J (pre++[x]) W'∧Kr B g W1 W')∨(e= .returned (.bool false)∧Jx (pre++[x]) W'))
  (hI:Rg B g o c r W)(h0:J [] W):
  CallsIn Fence.wide n Tryz.prog 116 #[.func (.yield l) #[] #[],.pointer (some ⟨B,0,none⟩)] W fun e W'=>(∃v,e= .returned v)∧((∃xs,xs.map Sd.v=sidesL r∧J xs W')∨(∃pre,pre.map Sd.v<+:sidesL r∧Jx pre W')):=by
 have HY:=aa hY;have HJ:=aa hJ;have HR:=aa hr;have hlen:=hr.few;clear hY hJ hr;have hbox:=hI.box;refine callsIn_of_wp Tryz.func116 rfl trivial ?_ rfl;simp only[Tryz.ntmps116,List.size_toArray,List.length_cons,List.length_nil,Nat.reduceAdd,Nat.reduceSub,Array.replicate_succ,Array.replicate_zero,List.push_toArray,List.append_toArray,List.nil_append,List.cons_append];gi_wp2;clear hbox
 gi_loopw [7] (fun i wr=>∃(k:Nat)(pre:List Sd),k≤r.length∧i= .int .i64 k∧Hid (pre.map Sd.v=upto r k)∧Hid (Rg B g o c r wr)∧Hid (J pre wr)∧W.heap.size≤wr.heap.size) (fun i _=>r.length-(intOf i).toNat)
 case atStart=>exact⟨0,[],Nat.zero_le _,rfl,rfl,hI,h0,Nat.le_refl _⟩
 case round=>
  clear hI h0;obtain⟨k,pre,hk,rfl,hpre,hrg,hj,hsz⟩:=hrel;by_cases hlt:k<r.length
  ·obtain⟨m,hm⟩:∃m,m=(k+1)%r.length:=⟨_,rfl⟩;(have hml:m<r.length:=by rw[hm];exact Nat.mod_lt _ O9);(have hside:sideAt r k=⟨at0 r k,at0 r m⟩:=by unfold sideAt;rw[hm]);have fa:=HR.out.at0 k hlt;have fb:=HR.out.at0 m hml;(have e1:((k:Int)+1)%(r.length:Int)=(m:Int):=by rw[hm];push_cast;rfl);(have e2:((k:Int)+1).tmod (r.length:Int)=(m:Int):=by rw[Int.tmod_eq_emod_of_nonneg O9];exact e1);have hbox:=hrg.out.box;obtain⟨c1,c2⟩:=hrg.out.pts k _ (at0_some r k hlt)
   obtain⟨c3,c4⟩:=hrg.out.pts m _ (at0_some r m hml);have HSD:=aa hside;clear hside hm;generalize at0 r k=p at*;generalize at0 r m=q at*;obtain⟨x,hx1,hx2⟩:∃x:Sd,x.i=k∧x.s=⟨p,q⟩:=⟨⟨k,⟨p,q⟩,O9,fa,fb⟩,rfl,rfl⟩;(have hnew:upto r (k+1)=upto r k++[x.v]:=by rw[rL,HSD.out];unfold Sd.v;rw[hx1,hx2]);have HNEW:=aa hnew;have hplen:pre.length<r.length:=by
    have:=congrArg List.length hpre.out;rw[List.length_map,uS]at this;omega
   have hj1:J pre (wr.alloc (.cells #[.int .i64 p.x,.int .i64 p.y] 44)).drew:=HJ.out _ wr _ none hj.out ⟨rfl,rfl,rfl,by simp,fun k hk _=>(World.grownBy_alloc wr (.cells #[.int .i64 p.x,.int .i64 p.y] 44) none).block k hk (by simp)⟩ (fun r e=>by cases e);obtain⟨fn,tmps,assign,body,hy,hR⟩:=HY.out pre x _ hj1 hplen;unfold tA at hy;rw[hx1,hx2]at hy;simp only at hy
   have HRR:=aa (hR.mono (R':=fun e W'=>∃b,e= .returned (.bool b)∧Hid ((b=true∧J (pre++[x]) W'∧Kr B g (wr.alloc (.cells #[.int .i64 p.x,.int .i64 p.y] 44)).drew W')∨(b=false∧Jx (pre++[x]) W'))) (by
    rintro e W3 (⟨rfl,h2,h3⟩|⟨rfl,h2⟩)
    ·exact⟨true,rfl,.inl ⟨rfl,h2,h3⟩⟩
    ·exact⟨false,rfl,.inr ⟨rfl,h2⟩⟩))
   have hmx:Tryz.prog.follows .mixedOrders=true:=K9;have hBs:B<wr.heap.size:=uL hbox;have hgs:g<wr.heap.size:=uL c1;have kz:(1:Int)≤r.length:=O9;have kz2:¬((r.length:Int)=0):=O9;(have kz3:¬(r=[]):=by rintro rfl;simp at hlt);have kz4:¬(r.length=0):=O9;have kw:IntKind.i64.wrap ((k:Int)+1)=(k:Int)+1:=IntWalk.i64_in _ O9;have k0:(0:Int)≤k:=O9;have k1:(k:Int)<r.length:=O9;have m0:(0:Int)≤m:=O9;have m1:(m:Int)<r.length:=O9;have ky:((r.length:Int) ==0)=false:=by rw[beq_eq_false_iff_ne];omega
   clear hR hnew hx1 hx2 hj1 fa fb hplen;gi_wp2
   refine wpIn_mono (Q:=jn fun a2 w2=>∃b,a2= { tmps:=#[.func (.yield l) #[] #[],.pointer (some ⟨B,0,none⟩),undef,.int .i64 k,.pointer (some ⟨wr.heap.size,0,none⟩),.slice (some ⟨g,o,none⟩) r.length c,.int .i64 r.length,.int .i64 k,.bool true,.int .i64 k,.pointer (some ⟨g,o+k*2,none⟩),.agg #[.int .i64 p.x,.int .i64 p.y],.func (.yield l) #[] #[],.int .i64 k,.agg #[.int .i64 p.x,.int .i64 p.y],.slice (some ⟨g,o,none⟩) r.length c,.int .i64 k,.int .i64 ((k:Int)+1),.slice (some ⟨g,o,none⟩) r.length c,.int .i64 r.length,.int .i64 m,.pointer (some ⟨g,o+m*2,none⟩),.agg #[.int .i64 q.x,.int .i64 q.y],.agg #[.int .i64 p.x,.int .i64 p.y,.int .i64 q.x,.int .i64 q.y],.bool b,.bool (!b),u26],defers:=[]}∧
    Hid ((b=true∧J (pre++[x]) w2∧Kr B g (wr.alloc (.cells #[.int .i64 p.x,.int .i64 p.y] 44)).drew w2)∨(b=false∧Jx (pre++[x]) w2))) ?_ ?_
   ·gi_region_with_o (refine HRR.out.mono ?_;rintro e W3 ⟨b,rfl,hb⟩)
    all_goals exact⟨b,rfl,hb⟩
   ·clear HRR hy e1 e2 kw c1 c2 c3 c4 hbox;refine jn.imp ?_;rintro _ W3 ⟨b,rfl,hb⟩;cases b with
    |true=>
     obtain⟨_,h1,h2⟩:=hb.out.resolve_right (fun h=>by cases h.1);have HJ1:=aa h1;have hb3:Kr B g wr W3:=Kr.trans (Kr.below (((Below.refl _ wr).alloc (Nat.le_refl _) _).drew)) h2;have HRG:=aa (hrg.out.kept hb3);have hsz3:=hb3.1;clear hb h1 h2 hb3;gi_wp2;go_roundw
     case rel=>exact⟨k+1,pre++[x],O9,by go_num,(by show _=_;rw[List.map_append,hpre.out,HNEW.out];rfl),HRG,HJ1,O9⟩
     case measure=>simp[intOf];omega
    |false=>
     have h1:=(hb.out.resolve_left (fun h=>by cases h.1)).2;have HJ1:=aa h1;clear hb h1;gi_wp2;refine bodyPost_ret (results_none rfl _ _ _) rfl ?_;refine⟨⟨_,rfl⟩,.inr ⟨pre++[x],?_,HJ1.out⟩⟩;rw[List.map_append,hpre.out,List.map_cons,List.map_nil,←HNEW.out];exact uR r (k+1) hlt
  ·(obtain rfl:k=r.length:=by omega);gi_wp2;go_end0;exact⟨⟨_,rfl⟩,.inl ⟨pre,hpre.out.trans (DV r),hj.out⟩⟩
theorem lz(n:Nat)(hn:1≤n)(B g o c:Nat)(r:List Pt)(hr:DU r)(hr1:1≤r.length)(w:World)(hI:Rg B g o c r w):SeqStopsK Fence.wide n Tryz.prog 116 #[.pointer (some ⟨B,0,none⟩)] tA (Kr B g) (fun xs=>xs.map Sd.v=sidesL r) (fun pre=>pre.map Sd.v<+:sidesL r) r.length w:=
 fun l J Jx W hW hJ _ hY h0=>F9 n hn l B g o c r hr hr1 J Jx W hJ hY (hI.kept (Kr.below hW)) h0
theorem Dy(px py:Int)(w:World):Calls Tryz.prog 115 #[.agg #[.int .i64 px,.int .i64 py]] w fun e w'=>e= .returned (.bool (aF ⟨px,py⟩))∧Below w.heap.size w w':=by
 obtain⟨R,hR⟩:∃R,R=aF ⟨px,py⟩:=⟨_,rfl⟩;rw[←hR];have HR:=aa hR;clear hR;go_enter Tryz.func115,Tryz.ntmps115;go_wp2
 all_goals
  go_ret;exact⟨ag (by rw[HR.out];unfold aF;first|exact(decide_eq_false (by simp only;omega)).symm|(rw[Bool.eq_iff_iff];simp only[decide_eq_true_eq];omega)),(Below.refl _ _).alloc (Nat.le_refl _) _⟩
theorem Hp(px py:Int)(w:World):Calls Tryz.prog 114 #[.agg #[.int .i64 px,.int .i64 py]] w fun e w'=>e= .returned (.bool (!aF ⟨px,py⟩))∧Below w.heap.size w w':=by
 have HN:=aa (Dy px py);generalize aF ⟨px,py⟩=b at*;go_enter Tryz.func114,Tryz.ntmps114;go_wp2_with fail;refine(HN.out _).mono ?_;rintro _ w1 ⟨rfl,b1⟩;go_wp2_with fail;go_ret;exact⟨rfl,aq ((Below.refl _ _).alloc (Nat.le_refl _) _) b1⟩
def Dz(W:World)(v:Value)(r:List Pt):Prop:=∃A c,v= .slice A r.length c∧(r=[]∨∃g o,A=some ⟨g,o,none⟩∧g<W.heap.size∧Dx W g o r)
theorem Dz.below{W W':World}{v:Value}{r:List Pt}(h:Dz W v r)(hb:Below W.heap.size W W'):Dz W' v r:=by
 obtain⟨A,c,hv,h⟩:=h;refine⟨A,c,hv,?_⟩;rcases h with h|⟨g,o,hA,hg,hp⟩
 ·exact .inl h
 ·exact .inr ⟨g,o,hA,Nat.lt_of_lt_of_le hg hb.size,hp.below hg hb⟩
theorem Jh(ts:List Pt)(k:Nat)(h:k<ts.length):ts.drop k=at0 ts k::ts.drop (k+1):=by
 rw[List.drop_eq_getElem_cons h];congr 1;have:=at0_some ts k h;rw[List.getElem?_eq_getElem h,Option.some.injEq]at this;exact this
def Ji(b:Bool)(w:World)(e:Ending)(w':World):Prop:=∃z:Int,e= .returned (.int .i64 z)∧decide (0≤z)=b∧Below w.heap.size w w'
theorem DA(r:List Pt)(v:Value)(w:World)(hv:Dz w v r)(hr:r.length≤2000):Calls Tryz.prog 156 #[v,.func (.func 114) #[] #[]] w (Ji (!aD r) w):=by
 obtain⟨A,c,rfl,hA⟩:=hv;obtain⟨R,hR⟩:∃R,R=aD r:=⟨_,rfl⟩;rw[←hR];have HR:=aa hR;have HA:=aa hA;clear hR hA;go_enter Tryz.func156,Tryz.ntmps156;go_wp2_with fail;go_loopw [8] (fun i wr=>∃k:Nat,k≤r.length∧i= .int .i64 k∧Below w.heap.size w wr∧Hid (aD (r.drop k)=R)) (fun i _=>r.length-(intOf i).toNat)
 case atStart=>exact⟨0,Nat.zero_le _,rfl,Below.refl _ _,HR.out.symm⟩
 case round=>
  obtain⟨k,hk,rfl,hb,hrel⟩:=hrel;by_cases hlt:k<r.length
  ·obtain⟨g,o,rfl,hg,hp⟩:=HA.out.resolve_left (by rintro rfl;simp at hlt);obtain⟨c1,c2⟩:=(hp.below hg hb) k _ (at0_some r k hlt);have hd:=hrel.out;rw[Jh r k hlt,aD]at hd;have HF:=aa (Hp (at0 r k).x (at0 r k).y);have hnp:aF ⟨(at0 r k).x,(at0 r k).y⟩=aF (at0 r k):=rfl;rw[hnp]at HF;generalize aF (at0 r k)=b at*;generalize at0 r k=p at*;obtain⟨px,py⟩:=p;simp only at c1 c2 HF;have b1:(0:Int)≤k:=O9;have b2:(k:Int)<r.length:=O9;have HD:=aa hd;clear hd hp hnp hrel;cases b with
   |true=>
    go_wp2_with fail;refine(HF.out _).mono ?_;rintro _ w2 ⟨rfl,b3⟩;go_wp2_with fail;refine⟨⟨k+1,O9,by go_num,aq hb b3,HD.out⟩,?_⟩;simp[intOf];omega
   |false=>
    go_wp2_with fail;refine(HF.out _).mono ?_;rintro _ w2 ⟨rfl,b3⟩;go_wp2_with fail;go_ret;exact⟨k,rfl,by rw[←HD.out];simp,aq hb b3⟩
  ·(have hr:R=true:=by rw[←hrel.out,List.drop_eq_nil_of_le O9];rfl);have HR2:=aa hr;clear hr hrel;go_wp2_with fail;go_ret;exact⟨-1,rfl,by rw[HR2.out];rfl,hb⟩
theorem rH(r:List Pt)(v:Value)(w:World)(hv:Dz w v r)(hr:r.length≤2000):Calls Tryz.prog 113 #[v,.func (.func 114) #[] #[]] w fun e w'=>e= .returned (.bool (!aD r))∧Below w.heap.size w w':=by
 have HX:=aa (DA r v w hv hr);obtain⟨A,c,rfl,_⟩:=hv;go_enter Tryz.func113,Tryz.ntmps113;go_wp2_with fail;refine HX.out.mono ?_;rintro _ w1 ⟨z,rfl,hz,hb⟩;have HZ:=aa hz;clear hz;go_wp2_with fail
 all_goals
  go_ret;exact⟨ag (by rw[←HZ.out]),hb⟩
theorem lC(r:List Pt)(v:Value)(w:World)(hv:Dz w v r)(hl:r.length≤100000):Calls Tryz.prog 55 #[v] w fun e w'=>e= .returned (.bool (regB r))∧Below w.heap.size w w':=by
 obtain⟨R,hR⟩:∃R,R=regB r:=⟨_,rfl⟩;rw[←hR];unfold regB at hR;have HX:=fun h=>aa (rH r v w hv h);obtain⟨A,c,rfl,_⟩:=hv;by_cases h3:3≤r.length
 ·by_cases h4:r.length≤2000
  ·have HX:=HX h4;rw[decide_eq_true h3,decide_eq_true h4,Bool.true_and,Bool.true_and]at hR;rw[←hR]at HX;have h3':(3:Int)≤r.length:=O9;have h4':(r.length:Int)≤2000:=O9;clear hR;go_enter Tryz.func55,Tryz.ntmps55;go_wp2_with fail;refine HX.out.mono ?_;rintro _ w1 ⟨rfl,hb⟩;go_wp2_with fail;go_ret;exact⟨ag (by simp),hb⟩
  ·(have hr:R=false:=by rw[hR,decide_eq_false h4];simp);have HR:=aa hr;have h3':(3:Int)≤r.length:=O9;have h4':¬((r.length:Int)≤2000):=O9;clear hR hr HX;go_enter Tryz.func55,Tryz.ntmps55;go_wp2_with fail;go_ret;exact⟨ag HR.out.symm,Below.refl _ _⟩
 ·have hr:R=false:=by rw[hR,decide_eq_false h3];simp
  have HR:=aa hr;have h3':¬((3:Int)≤r.length):=O9;clear hR hr HX;go_enter Tryz.func55,Tryz.ntmps55;go_wp2_with fail;go_ret;exact⟨ag HR.out.symm,Below.refl _ _⟩
theorem mV(v:Value)(A:Option Addr)(n c:Nat)(hv:v= .slice A n c)(w:World):Calls Tryz.prog 56 #[v] w fun e w'=>e= .returned (.func (.func 116) #[] #[.pointer (some ⟨w.heap.size,0,none⟩)])∧w'=w.alloc (.cells #[.slice A n c] 49):=by
 subst hv;go_enter Tryz.func56,Tryz.ntmps56;go_wp2;go_ret;exact⟨rfl,rfl⟩
theorem bu{W W':World}(h:Below W.heap.size W W'):KeepsOthers W W':=⟨h.size,fun k _ hk _=>(h.block k (Array.getElem?_eq_some_iff.1 hk).1).trans hk⟩
def F'(W:World)(B:Nat)(s:Sg):Prop:=W.heap[B]? =some (.cells #[.int .i64 s.a.x,.int .i64 s.a.y,.int .i64 s.b.x,.int .i64 s.b.y] 68 (0,0))
theorem jo{X Y:World}{row:Option Nat}{B:Nat}{cs:Array Value}{t:TypeId}{f:Nat×Nat}(h:X.heap[B]? =some (.cells cs t f))(hg:X.grownBy Y row)(hr:∀r,row=some r→∃o:Obj,X.heap[r]? =some o∧o.isCells=false):Y.heap[B]? =some (.cells cs t f):=
 (hg.block B (Array.getElem?_eq_some_iff.1 h).1 (fun e=>by
  obtain⟨o,ho,hc⟩:=hr B e.symm;rw[h]at ho;cases ho;cases hc)).trans h
structure Jj(w:World)(b0 n0:Nat)(pre:List Sd)(W:World):Prop where
 size:n0≤W.heap.size
 box:Boxed W b0 3 (.int .i64 (sumT (pre.map Sd.v)))
 below:Below w.heap.size w W
theorem Hq(w:World)(b0 n0 B:Nat)(hB:w.heap.size≤B):OwnFrom B (Jj w b0 n0):=fun _ X Y row h hg hr=>
 ⟨Nat.le_trans h.size hg.size,jo h.box hg (fun r e=>(hr r e).2),ownFrom_below (β:=Unit) (Nat.le_refl _) hB () X Y row h.below hg hr⟩
theorem zX(r:List Pt)(v:Value)(w:World)(hv:Dz w v r)(hl:r.length≤100000):Calls Tryz.prog 15 #[v] w fun e w'=>e= .returned (.int .i64 (twice r))∧Below w.heap.size w w':=by
 have HG:=aa (lC r v w hv hl);cases hreg:regB r with
 |false=>
  have ht:twice r=0:=by unfold twice;rw[hreg];rfl
  rw[ht];rw[hreg]at HG;obtain⟨A,c,rfl,_⟩:=hv;clear hreg ht;go_enter Tryz.func15,Tryz.ntmps15;go_wp2_with fail;refine(HG.out).mono ?_;rintro _ w1 ⟨rfl,hb⟩;go_wp2_with fail;go_ret;exact⟨rfl,hb⟩
 |true=>
  obtain⟨hfine,h3⟩:=rN r hreg;have ht:twice r=sumT (sidesL r):=by unfold twice;rw[hreg];rfl
  rw[ht];rw[hreg]at HG;obtain⟨A,c,rfl,hA⟩:=hv;obtain⟨g,o,rfl,hg,hp⟩:=hA.resolve_left (by rintro rfl;simp at h3);have HP:=aa hp;have HF:=aa hfine;clear hreg ht hA hp hfine;refine(callsIn_wide (n:=10)).1 ?_;refine callsIn_of_wp_marks Tryz.func15 rfl trivial ?_ rfl;simp only[Tryz.ntmps15,List.size_toArray,List.length_cons,List.length_nil,Nat.reduceAdd,Nat.reduceSub,Array.replicate_succ,Array.replicate_zero,List.push_toArray,List.append_toArray,List.nil_append,List.cons_append]
  have hf:Fence.wide.fn 55:=trivial;have hf2:Fence.wide.fn 56:=trivial;gi_wp2_with (first
   |(gi_at_call 55;refine(callsIn_wide.2 HG.out).mono ?_;rintro e w1 ⟨rfl,hb1⟩)
   |(gi_at_call 56;refine(callsIn_wide.2 (mV _ _ _ _ rfl _)).mono ?_;rintro e w2 ⟨rfl,rfl⟩))
  have bx0:=Boxed.new w1 3 (.int .i64 0);have hp1:Dx w1 g o r:=HP.out.below hg hb1;have hg1:g<w1.heap.size:=Nat.lt_of_lt_of_le hg hb1.size;have hB1:=hb1.size;obtain⟨W0,hW0⟩:∃W0,(w1.alloc (.cells #[.int .i64 0] 3)).alloc (.cells #[.slice (some ⟨g,o,none⟩) r.length c] 49)=W0:=⟨_,rfl⟩;have hsz:W0.heap.size=w1.heap.size+2:=by rw[←hW0];simp
  have hb0:Below w.heap.size w W0:=by rw[←hW0];exact(hb1.alloc hB1 _).alloc (by simp;omega) _
  have bx:Boxed W0 w1.heap.size 3 (.int .i64 0):=by rw[←hW0];exact bx0.alloc _
  have hbx:W0.heap[w1.heap.size+1]? =some (.cells #[.slice (some ⟨g,o,none⟩) r.length c] 49 (0,0)):=by rw[←hW0];exact cj _ _ _ (by simp)
  have hrg:Rg (w1.heap.size+1) g o c r W0:=⟨cell_of_row _ _ 0 _ _ _ hbx,by
   rw[←hW0];exact hp1.below hg1 (((Below.refl _ _).alloc (Nat.le_refl _) _).alloc (by simp) _)⟩
  rw[hW0];clear hW0 bx0 hp1 hbx hb1 HG hf hf2;refine wpIn_rangeFunc_ownH rfl O9 (gf:=116) (lb:=#[.pointer (some ⟨w1.heap.size+1,0,none⟩)]) rfl trivial (enters_of Tryz.func116 K9 rfl)
   (lz 9 O9 (w1.heap.size+1) g o c r HF.out O9 W0 hrg) Kr.trans (fun W l o o' _ h1 h2 _=>Kr.putObj W l o o' h1 h2) (Below.refl _ _) (fun _=>rfl)
   (Jj w w1.heap.size W0.heap.size) (fun _ _ _=>False) (Hq w _ _ _ O9) (fun _ _ _ _ _ h _ _=>h) ⟨Nat.le_refl _,bx,hb0⟩
   (fun x a' W=>∃Bx,W0.heap.size≤Bx∧F' W Bx x.s∧a'= { tmps:=#[.slice (some ⟨g,o,none⟩) r.length c,undef,.int .i64 0,.pointer (some ⟨w1.heap.size,0,none⟩),undef,.pointer (some ⟨Bx,0,none⟩),.slice (some ⟨g,o,none⟩) r.length c,.bool true,.bool false,.slice (some ⟨g,o,none⟩) r.length c,.func (.func 116) #[] #[.pointer (some ⟨w1.heap.size+1,0,none⟩)],.int .i64 x.i,.agg #[.int .i64 x.s.a.x,.int .i64 x.s.a.y,.int .i64 x.s.b.x,.int .i64 x.s.b.y],undef,undef,undef,undef,undef,undef,undef,undef,undef,undef,undef,undef,undef,undef,undef,undef,undef,undef],defers:=[]})
   (fun x a' _ X Y row hs hg hr=>by
    obtain⟨Bx,e1,e2,e3⟩:=hs;exact⟨Bx,e1,jo e2 hg (fun r e=>(hr r e).2),e3⟩)
   ?assign ?body ?done ?stop
  case assign=>
   rintro l pre x W K h hK;unfold tA;gi_wp2;exact hK _ _ ((KeepsOthers.alloc _ _).from _) (Kr.below ((Below.refl _ _).alloc (Nat.le_refl _) _)) ⟨by have:=h.size;simp;omega,h.box.alloc _,h.below.alloc h.below.size _⟩
    ⟨W.heap.size,h.size,cj _ _ _ rfl,rfl⟩
  case body=>
   rintro l pre x a' W hl ⟨rr,hr⟩ h ⟨Bx,hBx,bX,rfl⟩ hlt;obtain⟨⟨c1,c2,c3,c4⟩,_⟩:=aE bX;have c0:W.cell? ⟨w1.heap.size,0,none⟩=_:=h.box.cell;have f0:W.frozen? ⟨w1.heap.size,0,none⟩=false:=h.box.frozen;obtain⟨s1,s2⟩:=Gi pre;obtain⟨t1,t2⟩:=Ae x;obtain⟨⟨a1,a2,a3,a4⟩,⟨b1,b2,b3,b4⟩⟩:=And.intro x.ha x.hb;have few:=HF.out.few;have hsum:sumT ((pre++[x]).map Sd.v)=sumT (pre.map Sd.v)+(x.s.a.x+x.s.b.x)*(x.s.b.y-x.s.a.y):=by
    rw[List.map_append,DW];simp[sumT,term,Sd.v]
   have tt:(x.s.a.x+x.s.b.x)*(x.s.b.y-x.s.a.y)=term x.v:=rfl;rw[←tt]at t1 t2;have HS:=aa hsum;have HH:=aa h;clear h hsum tt;generalize sumT (pre.map Sd.v)=T at*;gi_wp2;refine⟨(KeepsOthers.setCell _ _ _).from _,Kr.set _ _ _ _ O9 O9,⟨by have:=HH.out.size;simp;omega,?_,HH.out.below.setCell (p:=⟨w1.heap.size,0,none⟩) hB1 _⟩⟩;rw[HS.out];exact HH.out.box.set _
  case done=>
   rintro D xs W hD hS h hK;have c0:W.cell? ⟨w1.heap.size,0,none⟩=_:=h.box.cell;rw[hS]at c0;have HH:=aa h;have HK:=aa hK;clear h hK;gi_wp2;refine⟨by simp,.inl ⟨_,_,rfl,run_takeDeferred HK.out,?_⟩⟩;exact⟨_,results_tmp rfl _ _ _,rfl,HH.out.below.trans (belowK_b (w:=w) (Nat.le_refl _) W D _ _ O9 HK.out rfl rfl)⟩
  case stop=>
   rintro D c pre W _ _ h;exact h.elim
