/-
  Maps as arguments; ref13.Few, Find, kind, Sound, walked (from wip/net, pruned).
-/
import Derived.Test.YtfkgjbdeicggaaaGreatZQ
import Derived.Deep.SlicePairs
import Derived.Laws.AppendOwnNone
import Derived.Lib.SmallJoins
import Derived.RangeFuncBox
import Derived.StillTailTactics
set_option maxHeartbeats 16000000
set_option maxRecDepth 100000
namespace Go.Proofs.YtfkgjbdeicggaaaGreat
open Go.RowKit Go.Proofs.Px Go.Proofs.Pn Go.Proofs.Pm
end Go.Proofs.YtfkgjbdeicggaaaGreat
namespace Go.Proofs.YtfkgjbdeicggaaaGreat
open Go.RowKit Go.Proofs.Px Go.Proofs.Pn Go.Proofs.Pm
attribute [local go_sem] run_makeMap
theorem aA(w:World):Below w.heap.size w w.drew:=(Below.refl _ _).drew
end Go.Proofs.YtfkgjbdeicggaaaGreat
namespace Go.Proofs.YtfkgjbdeicggaaaGreat
open Go.RowKit Go.Proofs.Px Go.Proofs.Pn Go.Proofs.Pm
theorem bK{w:World}{B:Nat}{e:TypeId}{sz:Nat}{v:Value}{n:Nat}{xs:List Value}(h:w.ownsRow B e sz v n xs){b:Nat}(hb:v.ownBlock=some b):B≤b∧∃cur,w.heap[b]? =some (.cells cur e (0,0)):=by
 rcases h.2 with⟨rfl,_⟩|⟨g,cap,cur,rfl,hg,hh,r⟩
 ·cases hb
 ·cases hb;exact⟨hg,cur,hh⟩
structure fm(w:World)(v:Value)(l:List Ob):Prop where
 obs:wJ w v l
 len:l.length≤100000
 ok:∀o∈l,BW o
theorem fm.below{w w':World}{v:Value}{l:List Ob}(h:fm w v l)(hb:Below w.heap.size w w'):fm w' v l:=⟨h.obs.below hb,h.len,h.ok⟩
attribute [local go_sem] Oper.semAt_some run_makeMap
end Go.Proofs.YtfkgjbdeicggaaaGreat
namespace Go.Proofs.YtfkgjbdeicggaaaGreat
open Go.RowKit Go.Proofs.Px Go.Proofs.Pn Go.Proofs.Pm
def dJ(w:World):Type:= {W':World//Below w.heap.size w W'}
def dJ.w{w:World}(u:dJ w):World:=u.1
theorem dJ.go{w:World}(u:dJ w){w8:World}(hb:Below u.w.heap.size u.w w8):∃u':dJ w,w8=u'.w:=⟨⟨w8,aq u.2 hb⟩,rfl⟩
end Go.Proofs.YtfkgjbdeicggaaaGreat
namespace Go.Proofs.YtfkgjbdeicggaaaGreat
open Go.ChangeShapes Go.WideShapes Go.Joins Go.Deep Go.Proofs.Px Go.Proofs.Pn Go.RowKit
theorem gJ:Tryz.prog.cellsOf 9=1:=K9
theorem Ck:Tryz.prog.cellsOf 162=2:=K9
theorem wK:Tryz.prog.cellsOf 47=6:=K9
theorem Cl:Tryz.prog.cellsOf 24=1:=K9
theorem Jb:∀ {l:List Value},l.length=6→∃c0 c1 c2 c3 c4 c5,l=[c0,c1,c2,c3,c4,c5]
 | [c0,c1,c2,c3,c4,c5],_=>⟨c0,c1,c2,c3,c4,c5,rfl⟩
theorem Jc:∀ {l:List Value},l.length=1→∃c,l=[c]
 | [c],_=>⟨c,rfl⟩
def JD(o:Ob):Prop:=o.id.size≤maxLen∧o.refs.length≤maxLen∧(∀s∈o.refs,s.size≤maxLen)∧o.tags.length≤maxLen∧(∀t∈o.tags,t.k.size≤maxLen∧t.v.size≤maxLen)∧(Lit.int .i64 o.kind).wf=true∧(Lit.int .i64 o.x).wf=true∧(Lit.int .i64 o.y).wf=true
structure rD(W:World)(v:Value)(l:List Ob):Prop where
 obs:wJ W v l
 len:l.length≤maxLen
 ok:∀o∈l,JD o
theorem rD.below{W W':World}{v:Value}{l:List Ob}(h:rD W v l)(hb:Below W.heap.size W W'):rD W' v l:=⟨h.obs.below hb,h.len,h.ok⟩
theorem nI{w:World}{a:Addr}{v:Value}(h:w.cell? a=some v):a.block<w.heap.size:=World.block_lt_of_cell? w a h
section
variable {H:Type} {enc:TypeId×Value→H}
theorem Cm{W:World}{n:Nat}{c:Value}{x:DataW H×List MemPlace}(h:DataW.trod enc Tryz.prog W 0 (fun _=>true) true n 39 [c]=some x):∃L:List ByteArray,ff W c L∧L.length≤maxLen∧∀s∈L,s.size≤maxLen:=by
 rcases open_strings Tryz.underlying39 Tryz.underlying9 gJ h with⟨h1,_⟩|⟨a,len,cap,ss,hcs,_,hl,hm,hz,_,hcell,hws⟩
 ·simp only[List.cons.injEq,and_true]at h1;rw[h1];exact⟨[],⟨none,0,rfl,Nat.le_refl _,.inl rfl⟩,Nat.zero_le _,(fun s hs=>nomatch hs)⟩
 ·simp only[if_true]at hz;simp only[List.cons.injEq,and_true]at hcs;rw[hcs];subst hz;have hlt:(ss.take len).length=len:=by rw[List.length_take];omega
  by_cases hm0:ss.length=0
  ·obtain rfl:ss=[]:=List.length_eq_zero_iff.1 hm0;(obtain rfl:len=0:=by simpa using hl);exact⟨[],⟨some a,0,rfl,Nat.le_refl _,.inl rfl⟩,Nat.zero_le _,(fun s hs=>nomatch hs)⟩
  ·have hc00:=hcell 0 O9;have hspot:a.spot=none:=by
    have:=World.cell?_spot hc00;simpa[Addr.add]using this
   obtain⟨b,off,sp0⟩:=a;simp only at hspot;subst hspot;(have hadd:∀i,Addr.add ⟨b,off,none⟩ i=⟨b,off+i,none⟩:=fun i=>by unfold Addr.add;split<;>simp_all);have hc0:∀i,i<ss.length→W.cell? ⟨b,off+i,none⟩=some (.string (ss.getD i ByteArray.empty)):=fun i h=>by
    have:=hcell i h;rw[hadd]at this;exact this
   have hb:b<W.heap.size:=nI (hc0 0 O9);refine⟨ss.take len,⟨some ⟨b,off,none⟩,ss.length,by rw[hlt],by rw[hlt];exact hl,.inr ⟨b,off,rfl,hb,?_⟩⟩,by rw[hlt];omega,fun s hs=>hws s (List.mem_of_mem_take hs)⟩;intro i s hi;have hil:i<len:=by
    rcases Nat.lt_or_ge i len with h|h
    ·exact h
    ·rw[List.getElem?_eq_none (by rw[hlt];exact h)]at hi;cases hi
   rw[List.getElem?_take,if_pos hil]at hi;rw[hc0 i O9,List.getD_eq_getElem?_getD,hi];rfl
theorem Cn{W:World}{n:Nat}{c:Value}{x:DataW H×List MemPlace}(h:DataW.trod enc Tryz.prog W 0 (fun _=>true) true n 45 [c]=some x):∃r:List Tg,qO W c r∧r.length≤maxLen∧∀t∈r,t.k.size≤maxLen∧t.v.size≤maxLen:=by
 rcases open_slice_pairs Tryz.underlying45 Tryz.underlying162 Ck rfl rfl gJ gJ h with⟨h1,_⟩|⟨a,len,cap,m,n,V0,V1,D0,D1,P0,P1,hcs,_,hl,hm,hmm,hx,hi⟩
 ·simp only[List.cons.injEq,and_true]at h1;rw[h1];exact⟨[],⟨none,0,rfl,.inl rfl⟩,Nat.zero_le _,(fun s hs=>nomatch hs)⟩
 ·simp only[if_true]at hmm;subst hmm;simp only[List.cons.injEq,and_true]at hcs;rw[hcs];have key:∀i,i<m→∃z:ByteArray×ByteArray,V0 i= .string z.1∧V1 i= .string z.2∧z.1.size≤maxLen∧z.2.size≤maxLen:=by
   intro i hh;obtain⟨_,_,h3,h4⟩:=hi i hh;obtain⟨x,e0,_,wx⟩:=DataW.trod_string Tryz.underlying9 h3;obtain⟨y,e2,_,wy⟩:=DataW.trod_string Tryz.underlying9 h4;simp only[List.cons.injEq,and_true]at e0 e2;exact⟨(x,y),e0,e2,wx,wy⟩
  obtain⟨Z,hZ⟩:=choose_lt key;have hrl:((List.range len).map fun i=>(⟨(Z i).1,(Z i).2⟩:Tg)).length=len:=by simp
  by_cases hm0:m=0
  ·subst hm0;obtain rfl:len=0:=O9;exact⟨[],⟨some a,0,rfl,.inl rfl⟩,Nat.zero_le _,(fun s hs=>nomatch hs)⟩
  ·have hc00:=(hi 0 O9).1;have hspot:a.spot=none:=by
    have:=World.cell?_spot hc00;simpa[Addr.add]using this
   obtain⟨b,off,sp0⟩:=a;simp only at hspot;subst hspot;(have hadd:∀i,Addr.add ⟨b,off,none⟩ i=⟨b,off+i,none⟩:=fun i=>by unfold Addr.add;split<;>simp_all);have hc0:∀i,i<m→W.cell? ⟨b,off+i*2,none⟩=some (.string (Z i).1):=fun i h=>by
    have:=(hi i h).1;rw[hadd,(hZ i h).1]at this;exact this
   have hc1:∀i,i<m→W.cell? ⟨b,off+i*2+1,none⟩=some (.string (Z i).2):=fun i h=>by
    have:=(hi i h).2.1;rw[hadd,(hZ i h).2.1]at this;exact this
   have hb:b<W.heap.size:=nI (hc0 0 O9);have hat:∀(i:Nat) p,((List.range len).map fun i=>(⟨(Z i).1,(Z i).2⟩:Tg))[i]? =some p→i<len∧p=⟨(Z i).1,(Z i).2⟩:=by
    intro i p hp;have hil:i<len:=by
     rcases Nat.lt_or_ge i len with h|h
     ·exact h
     ·rw[List.getElem?_eq_none (by rw[hrl];exact h)]at hp;cases hp
    refine⟨hil,?_⟩;simp[hil]at hp;exact hp.symm
   refine⟨(List.range len).map fun i=>(⟨(Z i).1,(Z i).2⟩:Tg),⟨some ⟨b,off,none⟩,m,by rw[hrl],.inr ⟨b,off,rfl,hb,?_⟩⟩,by rw[hrl];omega,fun t ht=>?_⟩
   ·intro i p hp;obtain⟨hil,rfl⟩:=hat i p hp;exact⟨hc0 i O9,hc1 i O9⟩
   ·obtain⟨i,hit⟩:=List.getElem?_of_mem ht;obtain⟨hil,rfl⟩:=hat i t hit;exact⟨(hZ i O9).2.2.1,(hZ i O9).2.2.2⟩
theorem GV{W:World}{n:Nat}{cs:List Value}{x:DataW H×List MemPlace}(h:DataW.trod enc Tryz.prog W 0 (fun _=>true) true n 47 cs=some x):∃(o:Ob)(rv tv:Value),cs=[.string o.id,.int .i64 o.kind,.int .i64 o.x,.int .i64 o.y,rv,tv]∧ff W rv o.refs∧qO W tv o.tags∧JD o:=by
 obtain⟨xs,n,_,_,hl,hxl,hf⟩:=DataW.trod_struct Tryz.underlying47 h;rw[wK]at hl;obtain⟨c0,c1,c2,c3,c4,c5,rfl⟩:∃c0 c1 c2 c3 c4 c5,cs=[c0,c1,c2,c3,c4,c5]:=Jb hl;have hxl:xs.length=5:=hxl;have h0:=(hf 0 _ rfl).trans (List.getElem?_eq_getElem O9);have h1:=(hf 1 _ rfl).trans (List.getElem?_eq_getElem O9);have h2:=(hf 2 _ rfl).trans (List.getElem?_eq_getElem O9);have h3:=(hf 3 _ rfl).trans (List.getElem?_eq_getElem O9);have h4:=(hf 4 _ rfl).trans (List.getElem?_eq_getElem O9)
 have e1:Tryz.prog.cellsOf 3=1:=K9;have e2:Tryz.prog.cellsOf 44=2:=K9;have e3:Tryz.prog.cellsOf 39=1:=K9;have e4:Tryz.prog.cellsOf 45=1:=K9;simp only[List.getElem_toArray,List.getElem_cons_zero,List.getElem_cons_succ,gJ,e1,e2,e3,e4,List.drop_succ_cons,List.drop_zero,List.take_succ_cons,List.take_zero]at h0 h1 h2 h3 h4;obtain⟨id,a0,_,w0⟩:=DataW.trod_string Tryz.underlying9 h0;obtain⟨k,a1,_,w1⟩:=DataW.trod_int Tryz.underlying3 h1;obtain⟨y0,y1,m,_,_,p0,p1⟩:=trod_struct2 Tryz.underlying44 h2
 simp only[e1,List.drop_succ_cons,List.drop_zero,List.take_succ_cons,List.take_zero]at p0 p1;obtain⟨px,a2,_,w2⟩:=DataW.trod_int Tryz.underlying3 p0;obtain⟨py,a3,_,w3⟩:=DataW.trod_int Tryz.underlying3 p1;obtain⟨L,s4,l4,z4⟩:=Cm h3;obtain⟨r,s5,l5,z5⟩:=Cn h4;simp only[List.cons.injEq,and_true]at a0 a1 a2 a3;subst a0 a1 a2 a3;exact⟨⟨id,k,px,py,L,r⟩,c4,c5,rfl,s4,s5,w0,l4,z4,l5,z5,w1,w2,w3⟩
theorem Fb{W:World}{n:Nat}{c:Value}{x:DataW H×List MemPlace}(h:DataW.trod enc Tryz.prog W 0 (fun _=>true) true n 22 [c]=some x):∃l:List Ob,rD W c l:=by
 rcases open_slice Tryz.underlying22 h with⟨h1,_⟩|⟨a,len,cap,m,n,D,Pl,hcs,_,hl,hm,hmm,_,hi⟩
 ·simp only[List.cons.injEq,and_true]at h1;rw[h1];exact⟨[],⟨none,0,rfl,Nat.le_refl _,.inl rfl⟩,Nat.zero_le _,(fun s hs=>nomatch hs)⟩
 ·simp only[if_true]at hmm;subst hmm;simp only[List.cons.injEq,and_true]at hcs;rw[hcs];by_cases hm0:len=0
  ·subst hm0;exact⟨[],⟨some a,_,rfl,Nat.zero_le _,.inl rfl⟩,Nat.zero_le _,(fun s hs=>nomatch hs)⟩
  ·have key:∀i,i<m→∃z:Ob×Value×Value,(∀j,j<6→W.cell? ((a.add (i*6)).add j)=[Value.string z.1.id,.int .i64 z.1.kind,.int .i64 z.1.x,.int .i64 z.1.y,z.2.1,z.2.2][j]?)∧ff W z.2.1 z.1.refs∧qO W z.2.2 z.1.tags∧JD z.1:=by
    intro i hh;obtain⟨cs',h1,h2⟩:=hi i hh;obtain⟨o,rv,tv,rfl,h3,h4,h5⟩:=GV h2;rw[wK]at h1;obtain⟨_,_,h6⟩:=World.cells?_some h1;exact⟨(o,rv,tv),fun j hj=>h6 j hj,h3,h4,h5⟩
   haveI:Inhabited Ob:=⟨⟨⟨#[]⟩,0,0,0,[],[]⟩⟩;haveI:Inhabited Value:=⟨undef⟩;obtain⟨Z,hZ⟩:=choose_lt key;have hc00:=(hZ 0 O9).1 0 O9;have hspot:a.spot=none:=by
    have:=World.cell?_spot hc00;simpa[Addr.add]using this
   obtain⟨b,off,sp0⟩:=a;simp only at hspot;subst hspot;have hadd:∀i j,Addr.add (Addr.add ⟨b,off,none⟩ i) j=⟨b,off+i+j,none⟩:=fun i j=>by
    (have e:∀o i,Addr.add ⟨b,o,none⟩ i=⟨b,o+i,none⟩:=fun o i=>by unfold Addr.add;split<;>simp_all);rw[e,e]
   have hb:b<W.heap.size:=by
    rw[hadd]at hc00;exact nI (a:=⟨b,_,none⟩) hc00
   (have hrl:((List.range len).map fun i=>(Z i).1).length=len:=by simp);have hat:∀(i:Nat) p,((List.range len).map fun i=>(Z i).1)[i]? =some p→i<len∧p=(Z i).1:=by
    intro i p hp;have hil:i<len:=by
     rcases Nat.lt_or_ge i len with h|h
     ·exact h
     ·rw[List.getElem?_eq_none (by rw[hrl];exact h)]at hp;cases hp
    refine⟨hil,?_⟩;simp[hil]at hp;exact hp.symm
   refine⟨(List.range len).map fun i=>(Z i).1,⟨some ⟨b,off,none⟩,m,by rw[hrl],by rw[hrl];exact hl,.inr ⟨b,off,rfl,hb,?_⟩⟩,by rw[hrl];omega,fun o ho=>?_⟩
   ·intro i o hp;obtain⟨hil,rfl⟩:=hat i o hp;obtain⟨g1,g2,g3,_⟩:=hZ i O9;refine⟨(Z i).2.1,(Z i).2.2,?_,?_,?_,?_,?_,?_,g2,g3⟩
    ·have:=g1 0 O9;rw[hadd]at this;exact this
    ·have:=g1 1 O9;rw[hadd]at this;exact this
    ·have:=g1 2 O9;rw[hadd]at this;exact this
    ·have:=g1 3 O9;rw[hadd]at this;exact this
    ·have:=g1 4 O9;rw[hadd]at this;exact this
    ·have:=g1 5 O9;rw[hadd]at this;exact this
   ·obtain⟨i,hit⟩:=List.getElem?_of_mem ho;obtain⟨hil,rfl⟩:=hat i o hit;exact(hZ i O9).2.2.2
theorem ld:laidOutB Tryz.prog=true:=K9
theorem ug:Tryz.prog.readableRec 24=true:=K9
theorem Co{W W':World}{v:Value}{d:DataW H}{p:List MemPlace}(h:DataW.Trod enc Tryz.prog W 0 (fun _=>true) true 24 v d p)(hb:Below W.heap.size W W')(sp:Nat→Bool)(hs:∀q∈p,sp q.block=true):DataW.Trod enc Tryz.prog W' 0 sp true 24 v d p:=by
 refine WideElems.Trod_stays ld ug (of_decide_eq_true K9) h (fun q hq=>?_) hs;obtain⟨n,hn⟩:=h;have hlt:=DataW.trod_lt n _ _ _ hn q hq;cases q with
 |cell b o=>exact hb.cell (p:=⟨b,o,none⟩) hlt
 |map b=>exact hb.block b hlt
theorem open_map{W:World}{v:Value}{r:Reach}{b0:Nat}{d:DataW H}{p:List MemPlace}(hv:Value.okWide Tryz.prog W r b0 24 v)(h:DataW.Trod enc Tryz.prog W 0 (fun _=>true) true 24 v d p):∃(c:Value)(l:List Ob),v= .agg #[c]∧rD W c l:=by
 obtain⟨cs,rfl,hsz⟩:=okWide_struct Tryz.underlying24 hv;rw[Cl]at hsz;obtain⟨l⟩:=cs;obtain⟨c,rfl⟩:∃c,l=[c]:=Jc hsz;obtain⟨n,hn⟩:=h;obtain⟨y0,m,_,_,h0⟩:=trod_struct1 Tryz.underlying24 hn;have e:Tryz.prog.cellsOf 22=1:=K9;simp only[Value.cells,e,List.drop_zero,List.take_succ_cons,List.take_zero]at h0;obtain⟨l,hl⟩:=Fb h0;exact⟨c,l,rfl,hl⟩
end
end Go.Proofs.YtfkgjbdeicggaaaGreat
namespace Go.Proofs.YtfkgjbdeicggaaaGreat
open Go.RowKit Go.Proofs.Px Go.Proofs.Pn
theorem below_drewN(w:World)(n:Nat):Below w.heap.size w (w.drewN n):=⟨rfl,rfl,rfl,Nat.le_refl _,fun _ _=>rfl⟩
theorem GW(l:List Ob)(n:Nat)(v:Value)(w:World)(hv:rD w v l)(_:n≤1000):Calls Tryz.prog 27 #[.agg #[v],.int .i64 n] w fun e w'=>e= .returned (.bool (rB n l))∧Below w.heap.size w w':=by
 obtain⟨R,hR⟩:∃R,rB n l=R:=⟨_,rfl⟩;rw[hR];unfold rB at hR;have hlen:=hv.len;have HS:=aa hv.ok;obtain⟨A,c,rfl,_,hA⟩:=hv.obs;have HA:=aa hA;obtain⟨wa,hwa⟩:∃wa,w.alloc (.cells #[.slice A l.length c] 24)=wa:=⟨_,rfl⟩;have ha:Below w.heap.size w wa:=by rw[←hwa];exact(Below.refl _ _).alloc (Nat.le_refl _) _
 have hm:wa.heap[w.heap.size]? =some (.cells #[.slice A l.length c] 24 (0,0)):=by rw[←hwa];exact heap_alloc_new w _
 have dm:=(cD hm).1;have HM:=aa hm;have HWA:=aa ha;have HR:=aa hR;unfold maxLen at hlen;clear hA hv hm ha hR;by_cases hln:l.length≤n
 ·have h1:(l.length:Int)≤n:=by omega
  have h1b:¬(n:Int)<l.length:=O9;have HR1:=aa (show l.all l9=R from by rw[←HR.out,decide_eq_true hln];rfl);clear HR hln;go_enter Tryz.func27,Tryz.ntmps27;go_wp2_with fail;clear hwa dm;go_loopw [5] (fun i wr=>∃k:Nat,k≤l.length∧i= .int .i64 k∧Hid (Below wa.heap.size wa wr)∧Hid ((l.drop k).all l9=R)) (fun i _=>l.length-(intOf i).toNat)
  case atStart=>exact⟨0,Nat.zero_le _,rfl,Below.refl _ _,HR1⟩
  case round=>
   obtain⟨k,hk,rfl,hb,hr⟩:=hrel;have dm:=(cD (ai hb.out HM.out)).1;by_cases hlt:k<l.length
   ·obtain⟨g,o,rfl,hg,hp⟩:=HA.out.resolve_left (by rintro rfl;simp at hlt);obtain⟨rv,tv,hoa⟩:=hp k _ (List.getElem?_eq_getElem hlt);obtain⟨Ar,cr,hrv,_,hAr⟩:=id hoa.refs;obtain⟨At,ct,htv,hAt⟩:=id hoa.tags;subst hrv;subst htv;obtain⟨c0,c1,c2,c3,c4,c5,hrf,htg⟩:=hoa.below hg (aq HWA.out hb.out);have hr2:=hr.out;rw[ue l k hlt,List.all_cons]at hr2;have hok:=HS.out _ (List.getElem_mem hlt);generalize l[k]=t at*;obtain⟨hs1,hs2,hs3,hs4,hs5,_⟩:=hok;unfold maxLen at hs1 hs2 hs4;have k0:(0:Int)≤k:=O9
    have k1:(k:Int)<l.length:=O9;have HL:=aa hlt;have HMS:=aa (show l.length-(k+1)<l.length-k from by omega);have HR2:=aa hr2;obtain⟨wo,hwo⟩:∃wo,wr.alloc (.cells #[.string t.id,.int .i64 t.kind,.int .i64 t.x,.int .i64 t.y,.slice Ar t.refs.length cr,.slice At t.tags.length ct] 47)=wo:=⟨_,rfl⟩;have hblk:wo.heap[wr.heap.size]? =some (.cells #[.string t.id,.int .i64 t.kind,.int .i64 t.x,.int .i64 t.y,.slice Ar t.refs.length cr,.slice At t.tags.length ct] 47 (0,0)):=by rw[←hwo];exact heap_alloc_new _ _
    have d0:wo.cell? ⟨wr.heap.size,0,none⟩=some (.string t.id):=cell_of_row wo _ 0 _ _ _ hblk;have d4:wo.cell? ⟨wr.heap.size,4,none⟩=some (.slice Ar t.refs.length cr):=cell_of_row wo _ 4 _ _ _ hblk;have d5:wo.cell? ⟨wr.heap.size,5,none⟩=some (.slice At t.tags.length ct):=cell_of_row wo _ 5 _ _ _ hblk;(have hbo:Below wa.heap.size wa wo:=by rw[←hwo];exact aq hb.out ((Below.refl _ _).alloc (Nat.le_refl _) _));have HBO:=aa hbo;have HBW:=aa (aq HWA.out hbo);have HBL:=aa hblk
    have HAR:=aa (fun(x:t.refs≠[])=>hAr.resolve_left x);have HAT:=aa (fun(x:t.tags≠[])=>hAt.resolve_left x);clear hr hr2 hp hlt hoa hrf htg hb hbo hblk hAr hAt;by_cases u1:t.refs.length≤12
    case neg=>
     have u1':(12:Int)<t.refs.length:=O9;have HZ:=aa (show R=false from by rw[←HR2.out,l9,decide_eq_false u1];rfl);clear u1;go_wp2_with fail;go_ret;exact⟨ag HZ.out.symm,HBW.out⟩
    have u1':¬(12:Int)<t.refs.length:=O9;by_cases u2:t.tags.length≤20
    case neg=>
     have u2':(20:Int)<t.tags.length:=O9;have HZ:=aa (show R=false from by rw[←HR2.out,l9,decide_eq_false u2,Bool.and_false];rfl);clear u2;go_wp2_with fail;go_ret;exact⟨ag HZ.out.symm,HBW.out⟩
    have u2':¬(20:Int)<t.tags.length:=O9;by_cases u3:t.id.size≤60
    case neg=>
     have u3':(60:Int)<t.id.size:=O9;have HZ:=aa (show R=false from by rw[←HR2.out,l9,decide_eq_false u3,Bool.and_false];rfl);clear u3;go_wp2_with fail;go_ret;exact⟨ag HZ.out.symm,HBW.out⟩
    have u3':¬(60:Int)<t.id.size:=O9;have HR3:=aa (show(yt (t.refs.drop 0)&&(vF t.tags&&(l.drop (k+1)).all l9))=R from by
     rw[←HR2.out,l9,decide_eq_true u1,decide_eq_true u2,decide_eq_true u3,List.drop_zero];simp only[Bool.true_and,Bool.and_assoc])
    clear u1 u2 u3 HR2;go_wp2_with fail;clear hwo c0 c1 c2 c3 c4 c5 d0 dm;generalize wr.heap.size=bo at*
    go_loop [7] (fun i=>∃j:Nat,j≤t.refs.length∧i= .int .i64 j∧Hid ((yt (t.refs.drop j)&&(vF t.tags&&(l.drop (k+1)).all l9))=R)) (fun i=>t.refs.length-(intOf i).toNat)
    case atStart=>exact⟨0,Nat.zero_le _,rfl,HR3⟩
    case round=>
     clear HR3;obtain⟨j,hj,rfl,hr⟩:=hrel;by_cases hjl:j<t.refs.length
     ·obtain⟨gr,og,rfl,hgr,hpr⟩:=HAR.out (by intro e;rw[e]at hjl;simp at hjl);have c1:=(hpr.below hgr HBW.out) j _ (List.getElem?_eq_getElem hjl);have hr2:=hr.out;rw[yt,A7 t.refs j hjl,List.all_cons]at hr2;have hsz:=hs3 _ (List.getElem_mem hjl);generalize t.refs[j]=s at*;unfold maxLen at hsz;have j0:(0:Int)≤j:=O9;have j1:(j:Int)<t.refs.length:=O9;have HJ:=aa hjl;have HMJ:=aa (show t.refs.length-(j+1)<t.refs.length-j from by omega);have HR4:=aa hr2;clear hr hr2 hjl hpr;by_cases u1:60<s.size
      ·(have u1':(60:Int)<s.size:=by omega);have HZ:=aa (show R=false from by rw[←HR4.out,decide_eq_false (show ¬s.size≤60 by omega)];rfl);go_wp2_with fail;go_ret;exact⟨ag HZ.out.symm,HBW.out⟩
      have u1':¬(60:Int)<s.size:=O9;have HZ:=aa (show(yt (t.refs.drop (j+1))&&(vF t.tags&&(l.drop (k+1)).all l9))=R from by
       rw[←HR4.out,decide_eq_true (show s.size≤60 by omega)];rfl)
      go_wp2_with fail;refine⟨⟨j+1,HJ.out,by go_num,HZ⟩,?_⟩;have:=HMJ.out;simp[intOf];omega
     ·have HR4:=aa (show(vF (t.tags.drop 0)&&(l.drop (k+1)).all l9)=R from by
       have e:t.refs.drop j=[]:=List.drop_eq_nil_of_le O9;rw[←hr.out,e,List.drop_zero];rfl)
      clear hr;go_wp2_with fail;go_loopw [8] (fun i wr=>∃j:Nat,j≤t.tags.length∧i= .int .i64 j∧Hid (Below wo.heap.size wo wr)∧Hid ((vF (t.tags.drop j)&&(l.drop (k+1)).all l9)=R)) (fun i _=>t.tags.length-(intOf i).toNat)
      case atStart=>exact⟨0,Nat.zero_le _,rfl,Below.refl _ _,HR4⟩
      case round=>
       clear HR4;obtain⟨j2,hj2,rfl,hb2,hr⟩:=hrel;have d5:wr.cell? ⟨bo,5,none⟩=some (.slice At t.tags.length ct):=cell_of_row wr _ 5 _ _ _ (ai hb2.out HBL.out);by_cases hjl:j2<t.tags.length
       ·obtain⟨gr,og,rfl,hgr,hpr⟩:=HAT.out (by intro e;rw[e]at hjl;simp at hjl);obtain⟨c1,c2⟩:=(hpr.below hgr (aq HBW.out hb2.out)) j2 _ (List.getElem?_eq_getElem hjl);have hr2:=hr.out;rw[vF,ub t.tags j2 hjl,List.all_cons]at hr2;have hsz:=hs5 _ (List.getElem_mem hjl);generalize t.tags[j2]=s at*;obtain⟨sk,sv⟩:=s;simp only at c1 c2 hr2 hsz;unfold maxLen at hsz;have j0:(0:Int)≤j2:=O9;have j1:(j2:Int)<t.tags.length:=O9;have HJ:=aa hjl;have HMJ:=aa (show t.tags.length-(j2+1)<t.tags.length-j2 from by omega)
        have HR4:=aa hr2;clear hr hr2 hjl hpr;obtain⟨z,hz⟩:∃z,IntKind.i64.wrap ((sk.size:Int)+sv.size)=z:=⟨_,rfl⟩;have hr5:=HR4.out;simp only[hz]at hr5;have HR5:=aa hr5;clear HR4 hr5;by_cases u1:z≤300
        ·(have u1':¬(300:Int)<z:=by omega);have HZ:=aa (show(vF (t.tags.drop (j2+1))&&(l.drop (k+1)).all l9)=R from by
          rw[←HR5.out,decide_eq_true u1];rfl)
         have HB6:=aa hb2.out;clear u1;go_wp2_with fail;go_quiet (fail);go_wp2_with fail;refine⟨⟨j2+1,HJ.out,by go_num,aq HB6.out (below_drewN _ _),HZ⟩,?_⟩;have:=HMJ.out;simp[intOf];omega
        ·(have u1':(300:Int)<z:=by omega);have HZ:=aa (show R=false from by rw[←HR5.out,decide_eq_false u1];rfl);have HB6:=aa (aq HBW.out hb2.out);clear u1;go_wp2_with fail;go_quiet (fail);go_wp2_with fail;go_ret;exact⟨ag HZ.out.symm,aq HB6.out (below_drewN _ _)⟩
       ·have HZ:=aa (show(l.drop (k+1)).all l9=R from by
         have e:t.tags.drop j2=[]:=List.drop_eq_nil_of_le O9;rw[←hr.out,e];rfl)
        have HB5:=aa (aq HBO.out hb2.out);clear hr hb2;go_wp2_with fail;refine⟨⟨k+1,HL.out,by go_num,HB5,HZ⟩,?_⟩;have:=HMS.out;simp[intOf];omega
   ·have HZ:=aa (show R=true from by rw[←hr.out,List.drop_eq_nil_of_le O9];rfl);have HB:=aa (aq HWA.out hb.out);clear hr hb;go_wp2_with fail;go_ret;exact⟨ag HZ.out.symm,HB.out⟩
 ·have h1:(n:Int)<l.length:=by omega
  have HZ:=aa (show R=false from by rw[←HR.out,decide_eq_false hln];rfl);clear HR hln;go_enter Tryz.func27,Tryz.ntmps27;go_wp2_with fail;go_ret;exact⟨ag HZ.out.symm,HWA.out⟩
theorem yT(l:List Ob)(v:Value)(w:World)(hv:rD w v l):Calls Tryz.prog 6 #[.agg #[v]] w fun e w'=>e= .returned (.bool (rB 20 l))∧Below w.heap.size w w':=by
 obtain⟨A,c,rfl,_⟩:=id hv.obs;obtain⟨wa,hwa⟩:∃wa,w.alloc (.cells #[.slice A l.length c] 24)=wa:=⟨_,rfl⟩;have ha:Below w.heap.size w wa:=by rw[←hwa];exact(Below.refl _ _).alloc (Nat.le_refl _) _
 have dm:wa.cell? ⟨w.heap.size,0,none⟩=some (.slice A l.length c):=by rw[←hwa];exact(cD (heap_alloc_new w _)).1
 have HF:=aa (GW l 20 _ wa (hv.below ha) (by decide));clear hv;go_enter Tryz.func6,Tryz.ntmps6;go_wp2_with fail;refine HF.out.mono ?_;rintro _ w1 ⟨rfl,b1⟩;have HB:=aa (aq ha b1);clear b1 ha dm hwa;go_wp2_with fail;go_ret;exact⟨rfl,HB.out⟩
theorem nJ(id:BA)(x y:Int)(w:World):Calls Tryz.prog 57 #[.string id,.int .i64 x,.int .i64 y] w fun e w'=>e= .returned (.agg #[.string id,.int .i64 1,.int .i64 x,.int .i64 y,.slice none 0 0,.slice none 0 0])∧Below w.heap.size w w':=by
 go_enter Tryz.func57,Tryz.ntmps57;go_wp2_with fail;exact bodyPost_ret (v:=.agg #[.string id,.int .i64 1,.int .i64 x,.int .i64 y,.slice none 0 0,.slice none 0 0]) (by simp[results,Tryz.results57,go_sem]) rfl ⟨rfl,(Below.refl _ _).alloc (Nat.le_refl _) _⟩
theorem qQ(k:Int)(id:BA)(A:Option Addr)(n c:Nat)(w:World):Calls Tryz.prog 58 #[.int .i64 k,.string id,.slice A n c] w fun e w'=>e= .returned (.agg #[.string id,.int .i64 k,.int .i64 0,.int .i64 0,.slice A n c,.slice none 0 0])∧Below w.heap.size w w':=by
 go_enter Tryz.func58,Tryz.ntmps58;go_wp2_with fail;exact bodyPost_ret (v:=.agg #[.string id,.int .i64 k,.int .i64 0,.int .i64 0,.slice A n c,.slice none 0 0]) (by simp[results,Tryz.results58,go_sem]) rfl ⟨rfl,(Below.refl _ _).alloc (Nat.le_refl _) _⟩
def H8(L:List ByteArray):List Value:=L.map Value.string
theorem ff.set{W:World}{g n c:Nat}{a:Addr}{v:Value}{l:List ByteArray}(h:ff W (.slice (some ⟨g,0,none⟩) n c) l)(hne:g≠a.block):ff (W.setCell a v) (.slice (some ⟨g,0,none⟩) n c) l:=by
 obtain⟨A,c',he,hc,h⟩:=h;cases he;refine⟨_,_,rfl,hc,?_⟩;rcases h with h|⟨g',o,e,hg,hp⟩
 ·exact .inl h
 ·cases e;refine .inr ⟨g,0,rfl,by simpa using hg,fun i s hi=>?_⟩;rw[World.cell?_of_block (Below.heap_setCell W a v g hne)];exact hp i s hi
end Go.Proofs.YtfkgjbdeicggaaaGreat
namespace Go.Proofs.YtfkgjbdeicggaaaGreat
open Go.RowKit Go.Proofs.Px Go.Proofs.Pn Go.Proofs.Pm
theorem rD.mapI{w:World}{v:Value}{l:List Ob}(h:rD w v l)(hf:rB 20 l=true):fm w v l:=by
 obtain⟨h1,h2⟩:=GL hf (fun o ho=>(h.ok o ho).2.2.2.2.1);exact⟨h.obs,O9,h2⟩
end Go.Proofs.YtfkgjbdeicggaaaGreat
namespace Go.Proofs.YtfkgjbdeicggaaaGreat
open Go.RowKit Go.Proofs.Px Go.Proofs.Pn
theorem IG{a b:ByteArray}(h:a=b):(a.toList ==b.toList)=true∧a.toList=b.toList:=by subst h;exact⟨by simp,rfl⟩
theorem IT{a b:ByteArray}(h:a≠b):(a.toList ==b.toList)=false∧¬a.toList=b.toList:=⟨by simpa using fun e=>h (toList_inj.1 e),fun e=>h (toList_inj.1 e)⟩
theorem iQ(l:List Ob)(s:BA)(v:Value)(w:World)(hv:fm w v l)(hm:aZ l=true):Calls Tryz.prog 51 #[.agg #[v],.string s] w fun e w'=>e= .returned (.int .i64 (jA l s))∧Below w.heap.size w w':=by
 obtain⟨R,hR⟩:∃R,jA l s=R:=⟨_,rfl⟩;have hlen:=hv.len;have HE:=aa (fun k hk h1 h2=>EF hm (s:=s) (k:=k) hk h1 h2);rw[hR]at HE;rw[hR];have HM:=aa hm;obtain⟨A,c,rfl,_,hA⟩:=hv.obs;have HA:=aa hA;obtain⟨wa,hwa⟩:∃wa,w.alloc (.cells #[.slice A l.length c] 24)=wa:=⟨_,rfl⟩;have ha:Below w.heap.size w wa:=by rw[←hwa];exact(Below.refl _ _).alloc (Nat.le_refl _) _
 have dm:wa.cell? ⟨w.heap.size,0,none⟩=some (.slice A l.length c):=by rw[←hwa];exact(cD (heap_alloc_new w _)).1
 have HWA:=aa ha;clear hA hv ha hR hm;go_enter Tryz.func51,Tryz.ntmps51;go_wp2_with fail;clear hwa
 go_loop [5,6] (fun i j=>∃a b:Nat,a≤b∧b≤l.length∧i= .int .i64 a∧j= .int .i64 b∧Hid (∀(i:Nat) o,i<a→l[i]? =some o→fK o.id s=true)∧Hid (∀(i:Nat) o,b≤i→l[i]? =some o→fK o.id s=false)) (fun i j=>(intOf j).toNat-(intOf i).toNat)
 case atStart=>exact⟨0,l.length,Nat.zero_le _,Nat.le_refl _,rfl,rfl,fun i o hi=>O9,fun i o hi ho=>by have:=(List.getElem?_eq_some_iff.1 ho).1;omega⟩
 case round=>
  obtain⟨a,b,hab,hb,rfl,rfl,hl,hr⟩:=hrel;by_cases hlt:a<b
  ·obtain⟨m,hm⟩:∃m,(a+b)/2=m:=⟨_,rfl⟩;have hm1:a≤m:=O9;have hm2:m<b:=O9;have hmn:m<l.length:=O9;obtain⟨g,o,rfl,hg,hp⟩:=HA.out.resolve_left (by rintro rfl;simp at hmn);obtain⟨rv,tv,hoa⟩:=hp m _ (List.getElem?_eq_getElem hmn);have c0:=(hoa.below hg HWA.out).c0;have hkt:=List.getElem?_eq_getElem hmn;generalize l[m]=t at*;have a0:(a:Int)<b:=O9;have m0:(0:Int)≤m:=O9;have m1:(m:Int)<l.length:=O9;have hq:((a:Int)+b)/2=(m:Nat):=O9;have HQ:=aa hq;have HMA:=aa hm1;have HMB:=aa hm2;have HBL:=aa hb
   cases hx:fK t.id s with
   |true=>
    have hx2:Go.Op.bytesLess t.id.toList s.toList=true:=hx;have HL:=aa (BZ HM.out hkt hx);clear hx hkt hp hoa hl hq;go_wp2_with fail;refine⟨⟨m+1,b,HMB.out,HBL.out,by rw[HQ.out];rfl,rfl,HL,hr⟩,?_⟩;rw[HQ.out];have:=HMA.out;have:=HMB.out;simp[intOf];omega
   |false=>
    have hx2:Go.Op.bytesLess t.id.toList s.toList=false:=hx;have HR:=aa (yu HM.out hkt hx);clear hx hkt hp hoa hr hq;go_wp2_with fail;refine⟨⟨a,m,HMA.out,by have:=HMB.out;omega,rfl,by rw[HQ.out],hl,HR⟩,?_⟩;rw[HQ.out];have:=HMA.out;have:=HMB.out;simp[intOf];omega
  ·(obtain rfl:a=b:=by omega);obtain⟨e1,e2⟩:=HE.out a hb hl.out hr.out;clear hl hr hlt hab HE HM;by_cases hal:a<l.length
   ·obtain⟨g,o,rfl,hg,hp⟩:=HA.out.resolve_left (by rintro rfl;simp at hal);obtain⟨rv,tv,hoa⟩:=hp a _ (List.getElem?_eq_getElem hal);have c0:=(hoa.below hg HWA.out).c0;have hkt:=List.getElem?_eq_getElem hal;generalize l[a]=t at*;have m0:(0:Int)≤a:=O9;have m1:(a:Int)<l.length:=O9;by_cases e:t.id=s
    ·have HZ:=aa (e1 t hkt e);obtain⟨f1,f2⟩:=IG e;clear e1 e2 hp hoa hkt e hal hb;go_wp2_with fail;go_ret;exact⟨by rw[HZ.out];rfl,HWA.out⟩
    ·have HZ:=aa (e2 (fun o ho=>by rw[hkt]at ho;cases ho;exact e));obtain⟨f1,f2⟩:=IT e;clear e1 e2 hp hoa hkt e hal hb;go_wp2_with fail;go_ret;exact⟨by rw[HZ.out];rfl,HWA.out⟩
   ·have HZ:=aa (e2 (fun o ho=>by have:=(List.getElem?_eq_some_iff.1 ho).1;omega));have n1:¬(a:Int)<l.length:=O9;clear e1 e2 hal hb;go_wp2_with fail;go_ret;exact⟨by rw[HZ.out];rfl,HWA.out⟩
theorem Fc(o:Ob)(rv tv:Value)(i:Nat)(w:World):Calls Tryz.prog 52 #[.agg (eN o rv tv),.int .i64 i] w fun e w'=>e= .returned (.int .i64 (jB o.kind i))∧Below w.heap.size w w':=by
 unfold jB eN;by_cases h4:o.kind=4
 ·rw[if_pos (.inl h4),h4];go_enter Tryz.func52,Tryz.ntmps52;go_wp2_with fail;go_ret;exact⟨rfl,(Below.refl _ _).alloc (Nat.le_refl _) _⟩
 ·have q4:(o.kind ==4)=false:=beq_eq_false_iff_ne.2 h4;by_cases h5:o.kind=5
  ·rw[h5]at*;by_cases hi:i=1
   ·subst hi;rw[if_neg O9];go_enter Tryz.func52,Tryz.ntmps52;go_wp2_with fail;go_ret;exact⟨rfl,(Below.refl _ _).alloc (Nat.le_refl _) _⟩
   ·rw[if_pos O9];have hi2:((i:Int) ==1)=false:=beq_eq_false_iff_ne.2 O9;(have hi3:((i:Int) != 1)=true:=by simp[bne,hi2]);have hi4:¬(i:Int)=1:=O9;go_enter Tryz.func52,Tryz.ntmps52;go_wp2_with fail;go_ret;exact⟨rfl,(Below.refl _ _).alloc (Nat.le_refl _) _⟩
  ·have q5:(o.kind ==5)=false:=beq_eq_false_iff_ne.2 h5;rw[if_neg O9];go_enter Tryz.func52,Tryz.ntmps52;go_wp2_with fail;go_ret;exact⟨rfl,(Below.refl _ _).alloc (Nat.le_refl _) _⟩
theorem yU{l:List Ob}{k:Int}{i:Nat}{s:BA}(h:jA l s= -1):kR l k i s=false:=by
 unfold jA at h;unfold kR;cases e:cA l s with
 |none=>rfl
 |some p=>
  obtain⟨h1,h2⟩:=db e;cases e2:dv s l with
  |none=>
   exfalso;have:=iE s l e2 p h1;exact this h2
  |some j=>rw[e2]at h;simp at h
theorem yV{l:List Ob}{k:Int}{i j:Nat}{s:BA}(h:dv s l=some j):∃p,l[j]? =some p∧p.id=s∧kR l k i s=(decide (p.kind=jB k i)&&dz l p):=by
 obtain⟨p,h1,h2,_,h3⟩:=eU s l j h;exact⟨p,h1,h2,by unfold kR;rw[h3]⟩
theorem wL(l:List Ob)(s:BA):jA l s= -1∨∃j:Nat,dv s l=some j∧jA l s=j∧j<l.length:=by
 unfold jA;cases e:dv s l with
 |none=>exact .inl rfl
 |some j=>
  obtain⟨_,_,_,h,_⟩:=eU s l j e;exact .inr ⟨j,rfl,rfl,h⟩
theorem ph(l:List Ob)(v:Value)(hm:aZ l=true)(n:Nat):∀(o:Ob)(rv tv:Value)(w:World),nw o.kind≤n→o∈l→fm w v l→ff w rv o.refs→qO w tv o.tags→Calls Tryz.prog 13 #[.agg #[v],.agg (eN o rv tv)] w fun e w'=>e= .returned (.bool (dz l o))∧Below w.heap.size w w':=by
 induction n using Nat.strongRecOn with
 |ind n ih=>
 intro o rv tv w hn ho hv hr ht;have hob:=iD hm o ho;obtain⟨R,hR⟩:∃R,dz l o=R:=⟨_,rfl⟩;have HR:=aa ((yw (bP hm) hob).trans hR);rw[hR];have HM:=aa hm;have HOB:=aa hob;have HI:Hid (∀(p:Ob)(rv tv:Value)(w':World),nw p.kind<nw o.kind→p∈l→fm w' v l→ff w' rv p.refs→qO w' tv p.tags→Calls Tryz.prog 13 #[.agg #[v],.agg (eN p rv tv)] w' fun e w2=>e= .returned (.bool (dz l p))∧Below w'.heap.size w' w2):=
  aa (fun p rv tv w' hp hpl h1 h2 h3=>ih (nw p.kind) O9 p rv tv w' (Nat.le_refl _) hpl h1 h2 h3)
 have HV:=aa hv;have HOK:=aa (hv.ok o ho);have HLN:=aa hv.len;have hkl:=(hv.ok o ho).2.1;obtain⟨A,c,rfl,_,hA⟩:=id hv.obs;obtain⟨Ar,cr,rfl,_,hAr⟩:=id hr;obtain⟨At,ct,rfl,_⟩:=id ht;have HA:=aa hA;have HAR:=aa hAr;obtain⟨wo,hwo⟩:∃wo,(w.alloc (.cells #[.slice A l.length c] 24)).alloc (.cells #[.string o.id,.int .i64 o.kind,.int .i64 o.x,.int .i64 o.y,.slice Ar o.refs.length cr,.slice At o.tags.length ct] 47)=wo:=⟨_,rfl⟩
 have hbo:Below w.heap.size w wo:=by rw[←hwo];exact((Below.refl _ _).alloc (Nat.le_refl _) _).alloc (by simp) _
 have hmb:wo.heap[w.heap.size]? =some (.cells #[.slice A l.length c] 24 (0,0)):=by
  rw[←hwo];exact ai ((Below.refl _ _).alloc (Nat.le_refl _) _) (heap_alloc_new w _)
 have hbb:wo.heap[w.heap.size+1]? =some (.cells #[.string o.id,.int .i64 o.kind,.int .i64 o.x,.int .i64 o.y,.slice Ar o.refs.length cr,.slice At o.tags.length ct] 47 (0,0)):=by
  rw[←hwo];simpa using heap_alloc_new (w.alloc (.cells #[.slice A l.length c] 24)) (.cells #[.string o.id,.int .i64 o.kind,.int .i64 o.x,.int .i64 o.y,.slice Ar o.refs.length cr,.slice At o.tags.length ct] 47)
 have HBO:=aa hbo;have HMB:=aa hmb;have HBB:=aa hbb;have hz:wo.heap.size=w.heap.size+2:=by rw[←hwo];simp
 clear ih hR hm hob hv hr ht hA hAr hbo hmb hbb hn ho hz;unfold eN;go_enter Tryz.func13,Tryz.ntmps13;go_wp2_with fail;clear hwo;go_loopw [5] (fun i wr=>∃k:Nat,k≤o.refs.length∧i= .int .i64 k∧Hid (mc l o.kind 0 (o.refs.take k)=true)∧Hid (Below wo.heap.size wo wr)) (fun i _=>o.refs.length-(intOf i).toNat)
 case atStart=>exact⟨0,Nat.zero_le _,rfl,rfl,Below.refl _ _⟩
 case round=>
  obtain⟨k,hk,rfl,hs,hb⟩:=hrel;have D4:∀u:dJ wo,u.w.cell? ⟨w.heap.size+1,4,none⟩=some (.slice Ar o.refs.length cr):=fun u=>cell_of_row u.w _ 4 _ _ _ (ai u.2 HBB.out);have d4:=D4 ⟨_,hb.out⟩;change wr.cell? _=_ at d4;by_cases hlt:k<o.refs.length
  ·obtain⟨g,off,rfl,hg,hp⟩:=HAR.out.resolve_left (by intro e;rw[e]at hlt;simp at hlt);have hx:=List.getElem?_eq_getElem hlt;have hsn:=B7 l o.kind o.refs 0 k _ hx;have hct:=vH l o.kind o.refs 0 k _ hx;generalize o.refs[k]=s at*;have C0:∀u:dJ wo,u.w.cell? ⟨g,off+k,none⟩=some (.string s):=fun u=>((aq HBO.out u.2).cell (p:=⟨g,_,none⟩) hg).trans (hp k s hx);have E0:∀u:dJ wo,u.w.cell? ⟨w.heap.size,0,none⟩=some (.slice A l.length c):=fun u=>(cD (ai u.2 HMB.out)).1
   have FF:=aa (fun u:dJ wo=>iQ l s _ u.w (HV.out.below (aq HBO.out u.2)) HM.out);have YN:Nonempty (dJ wo):=⟨⟨_,hb.out⟩⟩;have k0:(0:Int)≤k:=O9;have k1:(k:Int)<o.refs.length:=O9;have HSN:=aa hsn;have HCT:=aa hct;have HL:=aa hlt;have HMS:=aa (show o.refs.length-(k+1)<o.refs.length-k from by omega);have hbd:=aq hb.out (aA wr);have HS:=aa hs.out;have HX:=aa hx;clear hsn hct hlt hx hb hs hp;rcases wL l s with hf|⟨j,hf1,hf,hjl⟩
   ·have HZ:=aa (yU (k:=o.kind) (i:=0+k) hf);rw[hf]at FF;clear hf;go_wp2_with fail;refine au (J:=dJ wo) dJ.w ⟨_,hbd⟩ rfl K9 K9 ?_
    repeat (go_big_quiet_step (((with_reducible refine(FF.out _).mono ?_);rintro _ w8 ⟨rfl,b8⟩;exact⟨rfl,dJ.go _ b8⟩)))
    refine wpQuiet_nil ?_;rintro w9 ⟨u,rfl⟩;clear FF d4;have hbd:=aq u.2 (aA u.w);go_wp2_with fail;refine au (J:=dJ wo) dJ.w ⟨_,hbd⟩ rfl K9 K9 ?_
    repeat (go_big_quiet_step (fail))
    refine wpQuiet_nil ?_;rintro w9 ⟨u2,rfl⟩;have HB:=aa (aq HBO.out u2.2);go_wp2_with fail;go_ret;refine⟨ag ?_,HB.out⟩;rw[←HR.out,HCT.out,HZ.out];simp
   ·obtain⟨g2,o2,rfl,hg2,hp2⟩:=HA.out.resolve_left (by intro e;rw[e]at hjl;simp at hjl);obtain⟨p,hpj,hpid,hst⟩:=yV (k:=o.kind) (i:=0+k) hf1;clear hpid;obtain⟨rvp,tvp,hoa⟩:=hp2 j p hpj;have hpl:=List.mem_of_getElem? hpj;obtain⟨Arp,crp,hrp,_⟩:=id hoa.refs;obtain⟨Atp,ctp,htp,_⟩:=id hoa.tags;subst hrp;subst htp;have hne1:o.kind≠1:=by
     intro e;have h2:=HOB.out;unfold lJ mh at h2;rw[if_pos e]at h2;simp only[Bool.and_eq_true,decide_eq_true_eq]at h2;have:=HL.out;omega
    have hrk:=B6 (k:=o.kind) (i:=k) hne1;rw[Nat.zero_add]at hst;have HOA:=aa hoa;have bq:∀u:dJ wo,Cj u.w g2 (o2+j*6) p (.slice Arp p.refs.length crp) (.slice Atp p.tags.length ctp):=fun u=>HOA.out.below hg2 (aq HBO.out u.2);have X0:=fun u:dJ wo=>(bq u).c0;have X1:=fun u:dJ wo=>(bq u).c1;have X2:=fun u:dJ wo=>(bq u).c2;have X3:=fun u:dJ wo=>(bq u).c3;have X4:=fun u:dJ wo=>(bq u).c4;have X5:=fun u:dJ wo=>(bq u).c5
    have D0:∀u:dJ wo,u.w.cell? ⟨w.heap.size+1,0,none⟩=some (.string o.id):=fun u=>cell_of_row u.w _ 0 _ _ _ (ai u.2 HBB.out);have D1:∀u:dJ wo,u.w.cell? ⟨w.heap.size+1,1,none⟩=some (.int .i64 o.kind):=fun u=>cell_of_row u.w _ 1 _ _ _ (ai u.2 HBB.out);have D2:∀u:dJ wo,u.w.cell? ⟨w.heap.size+1,2,none⟩=some (.int .i64 o.x):=fun u=>cell_of_row u.w _ 2 _ _ _ (ai u.2 HBB.out);have D3:∀u:dJ wo,u.w.cell? ⟨w.heap.size+1,3,none⟩=some (.int .i64 o.y):=fun u=>cell_of_row u.w _ 3 _ _ _ (ai u.2 HBB.out)
    have D5:∀u:dJ wo,u.w.cell? ⟨w.heap.size+1,5,none⟩=some (.slice At o.tags.length ct):=fun u=>cell_of_row u.w _ 5 _ _ _ (ai u.2 HBB.out);have FK:=aa (fun u:dJ wo=>Fc o (.slice (some ⟨g,off,none⟩) o.refs.length cr) (.slice At o.tags.length ct) k u.w);have FS:Hid (p.kind=jB o.kind k→∀u:dJ wo,Calls Tryz.prog 13 #[.agg #[.slice (some ⟨g2,o2,none⟩) l.length c],.agg (eN p (.slice Arp p.refs.length crp) (.slice Atp p.tags.length ctp))] u.w fun e w2=>e= .returned (.bool (dz l p))∧Below u.w.heap.size u.w w2):=
     aa (fun e u=>HI.out p _ _ u.w (by rw[e];exact hrk) hpl (HV.out.below (aq HBO.out u.2)) (HOA.out.refs.below (aq HBO.out u.2)) (HOA.out.tags.below (aq HBO.out u.2)))
    unfold eN at FK FS;generalize jB o.kind k=KR at*;have j0:(0:Int)≤j:=O9;have j1:(j:Int)<l.length:=O9;have j2:¬(j:Int)<0:=O9;have j3:decide ((j:Int)<0)=false:=decide_eq_false j2;have HST:=aa hst;rw[hf]at FF;clear hf hf1 hjl hp2 hpj hst hoa hpl hrk hne1 bq;go_wp2_with fail;refine au (J:=dJ wo) dJ.w ⟨_,hbd⟩ rfl K9 K9 ?_
    repeat (go_big_quiet_step (((with_reducible refine(FF.out _).mono ?_);rintro _ w8 ⟨rfl,b8⟩;exact⟨rfl,dJ.go _ b8⟩)))
    refine wpQuiet_nil ?_;rintro w9 ⟨u,rfl⟩;clear FF d4 hbd;have hbd:=aq u.2 (aA u.w);by_cases he:p.kind=KR
    ·have FS2:=aa (FS.out he);obtain⟨Q,hQ⟩:∃Q,dz l p=Q:=⟨_,rfl⟩;rw[hQ]at FS2;have HQ:=aa hQ;subst he;clear FS hQ;cases Q with
     |true=>
      go_wp2_with fail;refine au (J:=dJ wo) dJ.w ⟨_,hbd⟩ rfl K9 K9 ?_
      repeat (go_big_quiet_step (first|((with_reducible refine(FK.out _).mono ?_);rintro _ w8 ⟨rfl,b8⟩;exact⟨rfl,dJ.go _ b8⟩)|((with_reducible refine(FS2.out _).mono ?_);rintro _ w8 ⟨rfl,b8⟩;exact⟨rfl,dJ.go _ b8⟩)))
      refine wpQuiet_nil ?_;rintro w9 ⟨u2,rfl⟩;have HB:=aa (show Below wo.heap.size wo u2.w from u2.2);go_wp2_with fail;refine⟨⟨k+1,HL.out,by go_num,aa (by rw[HSN.out,HS.out,Nat.zero_add,HST.out,HQ.out];simp),HB⟩,?_⟩;have:=HMS.out;simp[intOf];omega
     |false=>
      go_wp2_with fail;refine au (J:=dJ wo) dJ.w ⟨_,hbd⟩ rfl K9 K9 ?_
      repeat (go_big_quiet_step (first|((with_reducible refine(FK.out _).mono ?_);rintro _ w8 ⟨rfl,b8⟩;exact⟨rfl,dJ.go _ b8⟩)|((with_reducible refine(FS2.out _).mono ?_);rintro _ w8 ⟨rfl,b8⟩;exact⟨rfl,dJ.go _ b8⟩)))
      refine wpQuiet_nil ?_;rintro w9 ⟨u2,rfl⟩;have HB:=aa (aq HBO.out u2.2);go_wp2_with fail;go_ret;refine⟨ag ?_,HB.out⟩;rw[←HR.out,HCT.out,Nat.zero_add,HST.out,HQ.out];simp
    ·have q1:(p.kind ==KR)=false:=beq_eq_false_iff_ne.2 he;(have q2:(p.kind != KR)=true:=by simp[bne,q1]);have HE:=aa he;clear FS;go_wp2_with fail;refine au (J:=dJ wo) dJ.w ⟨_,hbd⟩ rfl K9 K9 ?_
     repeat (go_big_quiet_step (((with_reducible refine(FK.out _).mono ?_);rintro _ w8 ⟨rfl,b8⟩;exact⟨rfl,dJ.go _ b8⟩)))
     refine wpQuiet_nil ?_;rintro w9 ⟨u2,rfl⟩;have HB:=aa (aq HBO.out u2.2);go_wp2_with fail;go_ret;refine⟨ag ?_,HB.out⟩;rw[←HR.out,HCT.out,Nat.zero_add,HST.out,decide_eq_false HE.out];simp
  ·(have hz:R=true:=by rw[←HR.out,←hs.out,List.take_of_length_le O9]);have HZ:=aa hz;have HB:=aa (aq HBO.out hb.out);have k1:¬(k:Int)<o.refs.length:=O9;clear hz hs hb;go_wp2_with fail;go_ret;exact⟨ag HZ.out.symm,HB.out⟩
