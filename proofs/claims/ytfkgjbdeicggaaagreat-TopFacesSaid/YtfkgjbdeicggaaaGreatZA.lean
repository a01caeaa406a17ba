/-
  The plain laws of layer 3 (geom).
-/
import Derived.Test.YtfkgjbdeicggaaaGreatZ0
import Derived.Test.YtfkgjbdeicggaaaGreatRows
import Derived.WalkLawsBesides
import Derived.WalkSpells
set_option maxHeartbeats 1000000
namespace Go.Proofs.Pg
structure Pt where
 x:Int
 y:Int
deriving DecidableEq
structure Sg where
 a:Pt
 b:Pt
deriving DecidableEq
def aF(p:Pt):Bool:=decide (-2097152≤p.x∧p.x≤2097152∧ -2097152≤p.y∧p.y≤2097152)
def aD:List Pt→Bool
 | []=>true
 |p::l=>aF p&&aD l
theorem fF(p:Pt):aF p=true↔(-2097152≤p.x∧p.x≤2097152∧ -2097152≤p.y∧p.y≤2097152):=by simp[aF]
def eO(a b:Int):Int:=if a<b then-1 else if b<a then 1 else 0
theorem bN(a b:Int):(a<b∧eO a b= -1)∨(b<a∧eO a b=1)∨(a=b∧eO a b=0):=by unfold eO;split<;>(try split)<;>omega
def aN(a b:Pt):Int:=if eO a.x b.x≠0 then eO a.x b.x else eO a.y b.y
def jq:List (Int×Int)→Int
 | []=>0
 |p::l=>if eO p.1 p.2≠0 then eO p.1 p.2 else jq l
theorem xX(a b c d:Int):jq [(a,b),(c,d)]=aN ⟨a,c⟩ ⟨b,d⟩:=by
 simp only[jq,aN];split
 ·rfl
 ·split
  ·rfl
  ·rename_i h;exact(Decidable.not_not.mp h).symm
def ae(a b c:Pt):Int:=(b.x-a.x)*(c.y-a.y)-(b.y-a.y)*(c.x-a.x)
def ah(a b c:Pt):Int:=if aD [a,b,c]then eO (ae a b c) 0 else 0
theorem pO(n a b:Int)(c: -n≤a)(d:a≤n)(e: -n≤b)(f:b≤n): -(n*n)≤a*b∧a*b≤n*n:=by
 have g:0≤(n-a)*(n+b):=Int.mul_nonneg O9 O9;have h:0≤(n+a)*(n-b):=Int.mul_nonneg O9 O9;have i:0≤(n-a)*(n-b):=Int.mul_nonneg O9 O9;have j:0≤(n+a)*(n+b):=Int.mul_nonneg O9 O9;constructor<;>grind
theorem rJ(a b:Int)(c: -4194304≤a)(d:a≤4194304)(e: -4194304≤b)(f:b≤4194304): -17592186044416≤a*b∧a*b≤17592186044416:=
 pO 4194304 a b c d e f
def aO(s:Sg):Sg:=if 0<aN s.a s.b then ⟨s.b,s.a⟩else s
def eD(s:Sg)(p:Pt):Bool:=aD [s.a,s.b,p]&&(ah (aO s).a (aO s).b p ==0&&aN (aO s).a p≤0&&aN p (aO s).b≤0&&(decide ((aO s).a≠(aO s).b)||decide (p=(aO s).a)))
def mW(p:Pt)(s:Sg):Int:=if eD s p then (if p=s.a∨p=s.b then 1 else 2)else 0
def fB(s t:Sg):Pt:=if 0<aN t.a s.a then t.a else s.a
def di(s t:Sg):Pt:=if aN t.b s.b<0 then t.b else s.b
def fG(c:Int):Int:=if c= -1 then 5 else if c=0 then 1 else 0
def dc(s t:Sg):Int:=if t.a=t.b then mW t.a s else if s.a=s.b then mW s.a t else fG (aN (fB s t) (di s t))
def cO(a b c d:Int):Int:=if 0<a*b∨0<c*d then 0 else if a*b<0∧c*d<0 then 3 else if a*b=0∧c*d=0 then 1 else 2
def bz(s t:Sg):Int:=
 if s=t then 4
 else if s.a=s.b∨t.a=t.b∨(ah s.a s.b t.a=0∧ah s.a s.b t.b=0)then dc s t
 else cO (ah s.a s.b t.a) (ah s.a s.b t.b) (ah t.a t.b s.a) (ah t.a t.b s.b)
def meets(s t:Sg):Int:=if aD [s.a,s.b,t.a,t.b]then bz (aO s) (aO t)else 0
theorem eP(a b:Pt):aN a b= -1∨aN a b=0∨aN a b=1:=by
 unfold aN;have c:=bN a.x b.x;have d:=bN a.y b.y;split<;>omega
end Go.Proofs.Pg
namespace Go.Proofs.YtfkgjbdeicggaaaGreat
open Go.RowKit Go.Proofs.Pg
theorem aa{p:Prop}(h:p):Hid p:=h
theorem ag{a b:Bool}(h:a=b):Ending.returned (.bool a)= .returned (.bool b):=by rw[h]
theorem cW{k:IntKind}{a b:Int}(h:a=b):Ending.returned (.int k a)= .returned (.int k b):=by rw[h]
theorem aq{a b c:World}(h:Below a.heap.size a b)(k:Below b.heap.size b c):Below a.heap.size a c:=h.trans (k.mono h.size)
theorem dj{W w1:World}(hb:Below W.heap.size W w1):(∀b o,b<W.heap.size→w1.cell? ⟨b,o,none⟩=W.cell? ⟨b,o,none⟩)∧(∀b o,b<W.heap.size→w1.frozen? ⟨b,o,none⟩=W.frozen? ⟨b,o,none⟩):=
 ⟨fun b o h=>hb.cell (p:=⟨b,o,none⟩) h,fun b o h=>hb.frozen (p:=⟨b,o,none⟩) h⟩
def vS(s:Sg):Value:=.agg #[.int .i64 s.a.x,.int .i64 s.a.y,.int .i64 s.b.x,.int .i64 s.b.y]
theorem oe(a:Int)(w:World):Calls Tryz.prog 118 #[.int .i64 a] w fun e w'=>e= .returned (.bool false)∧w=w':=by
 go_enter Tryz.func118,Tryz.ntmps118;go_wp2;go_ret;exact⟨rfl,rfl⟩
theorem pP(a b:Int)(w:World):Calls Tryz.prog 63 #[.int .i64 a,.int .i64 b] w fun e w'=>e= .returned (.int .i64 (eO a b))∧w=w':=by
 have hc:=bN a b;generalize eO a b=c at hc;have HC:=aa hc;rcases hc with⟨h,rfl⟩|⟨h,rfl⟩|⟨h,rfl⟩
 ·go_enter Tryz.func63,Tryz.ntmps63;go_wp2_with (go_at_call 118;refine(oe _ _).mono ?_;rintro _ _ ⟨rfl,rfl⟩);go_ret;exact⟨rfl,rfl⟩
 ·go_enter Tryz.func63,Tryz.ntmps63;go_wp2_with (go_at_call 118;refine(oe _ _).mono ?_;rintro _ _ ⟨rfl,rfl⟩);go_ret;exact⟨rfl,rfl⟩
 ·subst h;go_enter Tryz.func63,Tryz.ntmps63;go_wp2_with (go_at_call 118;refine(oe _ _).mono ?_;rintro _ _ ⟨rfl,rfl⟩);go_ret;exact⟨rfl,rfl⟩
theorem DR(a b c d:Int)(w:World)(h1: -1000000000000000000≤c-a)(h2:c-a≤1000000000000000000)(h3: -1000000000000000000≤d-b)(h4:d-b≤1000000000000000000):Calls Tryz.prog 126 #[.agg #[.int .i64 a,.int .i64 b],.agg #[.int .i64 c,.int .i64 d]] w fun e w'=>e= .returned (.agg #[.int .i64 (c-a),.int .i64 (d-b)])∧Below w.heap.size w w':=by
 go_enter Tryz.func126,Tryz.ntmps126;go_wp2;exact bodyPost_ret (v:=.agg #[.int .i64 (c-a),.int .i64 (d-b)]) (by simp[results,Tryz.results126,go_sem]) rfl ⟨rfl,(((Below.refl _ _).alloc (Nat.le_refl _) _).alloc (by simp) _).alloc (by simp;omega) _⟩
theorem Bz(a b c d:Int)(w:World)(h1: -1000000000000000000≤a*d)(h2:a*d≤1000000000000000000)(h3: -1000000000000000000≤b*c)(h4:b*c≤1000000000000000000):Calls Tryz.prog 127 #[.agg #[.int .i64 a,.int .i64 b],.agg #[.int .i64 c,.int .i64 d]] w fun e w'=>e= .returned (.int .i64 (a*d-b*c))∧Below w.heap.size w w':=by
 go_enter Tryz.func127,Tryz.ntmps127;go_wp2;go_ret;exact⟨rfl,((Below.refl _ _).alloc (Nat.le_refl _) _).alloc (by simp) _⟩
def eI(w:World)(g:Nat)(ps:List Pt):Prop:=
 ∀i p,ps[i]? =some p→w.cell? ⟨g,i*2,none⟩=some (.int .i64 p.x)∧w.cell? ⟨g,i*2+1,none⟩=some (.int .i64 p.y)
theorem eI.below{w w':World}{g:Nat}{ps:List Pt}(h:eI w g ps)(hg:g<w.heap.size)(hb:Below w.heap.size w w'):eI w' g ps:=by
 intro i p hp;obtain⟨h1,h2⟩:=h i p hp;exact⟨(hb.cell (p:=⟨g,_,none⟩) hg).trans h1,(hb.cell (p:=⟨g,_,none⟩) hg).trans h2⟩
theorem Gg(ts:List Pt)(k:Nat)(h:k<ts.length):ts.drop k=ts[k]::ts.drop (k+1):=List.drop_eq_getElem_cons h
theorem DS(g c:Nat)(ps:List Pt)(w:World)(hn:ps.length≤1000)(hg:g<w.heap.size)(h:eI w g ps):Calls Tryz.prog 74 #[.slice (some ⟨g,0,none⟩) ps.length c] w fun e w'=>e= .returned (.bool (aD ps))∧Below w.heap.size w w':=by
 obtain⟨R,hR⟩:∃R,R=aD ps:=⟨_,rfl⟩;rw[←hR];have HR:=aa hR;have H1:=aa h;clear h hR;obtain⟨n,hnn⟩:∃n,n=ps.length:=⟨_,rfl⟩;rw[←hnn];have hn1:n≤ps.length:=O9;have hn2:ps.length≤n:=O9;clear hnn;go_enter Tryz.func74,Tryz.ntmps74;go_wp2;go_loopw [7] (fun i wr=>∃k:Nat,k≤n∧i= .int .i64 k∧Below w.heap.size w wr∧Hid (aD (ps.drop k)=R)) (fun i _=>n-(intOf i).toNat)
 case atStart=>exact⟨0,Nat.zero_le _,rfl,Below.refl _ _,HR.out.symm⟩
 case round=>
  obtain⟨k,hk,rfl,hb,hrel⟩:=hrel;by_cases hlt:k<n
  ·(have hka:k<ps.length:=by omega);have HA:=aa (Gg ps k hka);obtain⟨k1,k2⟩:=(H1.out.below hg hb) k ps[k] (List.getElem?_eq_getElem hka);generalize ps[k]=p at*;have HS:Hid ((aF p&&aD (ps.drop (k+1)))=R):=by
    have:=hrel.out;rw[HA.out]at this;exact this
   clear hka HA hrel;obtain⟨px,py⟩:=p;simp only at k1 k2;have b1:(0:Int)≤k:=O9;have b2:(k:Int)<n:=O9;cases hp:aF ⟨px,py⟩with
   |true=>
    obtain⟨p1,p2,p3,p4⟩:=(fF _).1 hp;simp only at p1 p2 p3 p4;(have m1:decide (2097152<max px py)=false:=by simp;omega);(have m2:decide (min px py< -2097152)=false:=by simp;omega);rw[hp]at HS;clear hp;go_wp2
    all_goals
     go_roundw
     case rel=>exact⟨k+1,O9,by go_num,hb.alloc hb.size _,HS.out⟩
     case measure=>simp[intOf];omega
   |false=>
    have HP:Hid (¬(-2097152≤px∧px≤2097152∧ -2097152≤py∧py≤2097152)):=by
     intro h;rw[(fF ⟨px,py⟩).2 h]at hp;cases hp
    rw[hp]at HS;clear hp;go_wp2
    all_goals first
     |(go_ret;exact⟨ag HS.out,hb.alloc hb.size _⟩)
     |(exfalso;have:=HP.out;omega)
  ·(have hr:R=true:=by rw[←hrel.out,List.drop_eq_nil_of_le O9];rfl);have HR2:=aa hr;clear hr hrel;go_wp2;go_ret;exact⟨ag HR2.out.symm,hb⟩
theorem rK(w:World)(t:TypeId)(ps:List Pt)(l:List Value)(hl:l=(ps.map fun p=>[Value.int .i64 p.x,Value.int .i64 p.y]).flatten):eI (w.alloc (.cells l.toArray t)) w.heap.size ps:=by
 subst hl;intro i p hp;have key:∀(ps:List Pt)(i:Nat)(p:Pt),ps[i]? =some p→((ps.map fun p=>[Value.int .i64 p.x,Value.int .i64 p.y]).flatten)[i*2]? =some (.int .i64 p.x)∧((ps.map fun p=>[Value.int .i64 p.x,Value.int .i64 p.y]).flatten)[i*2+1]? =some (.int .i64 p.y):=by
  intro ps;induction ps with
  |nil=>intro i p h;simp at h
  |cons q ps ih=>
   intro i p h;cases i with
   |zero=>simp at h;subst h;simp
   |succ i=>
    simp only[List.getElem?_cons_succ]at h;have:=ih i p h;simp only[List.map_cons,List.flatten_cons,List.cons_append,List.nil_append];rw[show(i+1)*2=i*2+1+1 by omega];simpa using this
 obtain⟨h1,h2⟩:=key ps i p hp;exact⟨by rw[cell_of_row _ w.heap.size (i*2) _ t (0,0) (heap_alloc_new w _)];simpa using h1,by rw[cell_of_row _ w.heap.size (i*2+1) _ t (0,0) (heap_alloc_new w _)];simpa using h2⟩
theorem uQ(ps:List Pt)(l:List Value)(t:TypeId)(w:World)(g c:Nat)(hg:w.heap.size=g)(hl:l=(ps.map fun p=>[Value.int .i64 p.x,Value.int .i64 p.y]).flatten)(hn:ps.length≤1000)(b:Bool)(hb:aD ps=b):Calls Tryz.prog 74 #[.slice (some ⟨g,0,none⟩) ps.length c] (w.alloc (.cells l.toArray t)) fun e w'=>e= .returned (.bool b)∧Below w.heap.size w w':=by
 subst hb hg;refine(DS w.heap.size c ps _ hn (by simp) (rK w t ps l hl)).mono ?_;rintro e w' ⟨rfl,hb⟩;exact⟨rfl,aq ((Below.refl _ _).alloc (Nat.le_refl _) _) hb⟩
theorem near3(ax ay bx bY cx cy:Int)(b:Bool)(hb:aD [⟨ax,ay⟩,⟨bx,bY⟩,⟨cx,cy⟩]=b)(w:World)(t:TypeId)(g c:Nat)(hg:w.heap.size=g):Calls Tryz.prog 74 #[.slice (some ⟨g,0,none⟩) 3 c] (w.alloc (.cells #[.int .i64 ax,.int .i64 ay,.int .i64 bx,.int .i64 bY,.int .i64 cx,.int .i64 cy] t)) fun e w'=>e= .returned (.bool b)∧Below w.heap.size w w':=
 uQ [⟨ax,ay⟩,⟨bx,bY⟩,⟨cx,cy⟩] [.int .i64 ax,.int .i64 ay,.int .i64 bx,.int .i64 bY,.int .i64 cx,.int .i64 cy] t w g c hg rfl (by simp) b hb
theorem p9(ax ay bx bY cx cy dx dy:Int)(b:Bool)(hb:aD [⟨ax,ay⟩,⟨bx,bY⟩,⟨cx,cy⟩,⟨dx,dy⟩]=b)(w:World)(t:TypeId)(g c:Nat)(hg:w.heap.size=g):Calls Tryz.prog 74 #[.slice (some ⟨g,0,none⟩) 4 c] (w.alloc (.cells #[.int .i64 ax,.int .i64 ay,.int .i64 bx,.int .i64 bY,.int .i64 cx,.int .i64 cy,.int .i64 dx,.int .i64 dy] t)) fun e w'=>e= .returned (.bool b)∧Below w.heap.size w w':=
 uQ [⟨ax,ay⟩,⟨bx,bY⟩,⟨cx,cy⟩,⟨dx,dy⟩] [.int .i64 ax,.int .i64 ay,.int .i64 bx,.int .i64 bY,.int .i64 cx,.int .i64 cy,.int .i64 dx,.int .i64 dy] t w g c hg rfl (by simp) b hb
theorem cX(ax ay bx bY cx cy:Int)(w:World):Calls Tryz.prog 76 #[.agg #[.int .i64 ax,.int .i64 ay],.agg #[.int .i64 bx,.int .i64 bY],.agg #[.int .i64 cx,.int .i64 cy]] w fun e w'=>e= .returned (.int .i64 (ah ⟨ax,ay⟩ ⟨bx,bY⟩ ⟨cx,cy⟩))∧Below w.heap.size w w':=by
 obtain⟨R,hR⟩:∃R,R=ah ⟨ax,ay⟩ ⟨bx,bY⟩ ⟨cx,cy⟩:=⟨_,rfl⟩;rw[←hR];have HR:=aa hR;clear hR;cases hn:aD [⟨ax,ay⟩,⟨bx,bY⟩,⟨cx,cy⟩]with
 |false=>
  have HN:=aa (near3 ax ay bx bY cx cy false hn);have hr:R=0:=by rw[HR.out,ah,hn];rfl
  have HR2:=aa hr;clear hn hr HR;go_enter Tryz.func76,Tryz.ntmps76;go_wp2_with fail;refine(HN.out _ _ _ _ (by simp)).mono ?_;rintro _ w1 ⟨rfl,b1⟩;go_wp2_with fail;go_ret;exact⟨cW HR2.out.symm,aq ((((Below.refl _ _).alloc (Nat.le_refl _) _).alloc (by simp) _).alloc (by simp;omega) _) b1⟩
 |true=>
  have HN:=aa (near3 ax ay bx bY cx cy true hn);have hr:R=eO ((bx-ax)*(cy-ay)-(bY-ay)*(cx-ax)) 0:=by rw[HR.out,ah,hn];rfl
  have HR2:=aa hr;simp only[aD,Bool.and_true,Bool.and_eq_true,fF]at hn;obtain⟨⟨a1,a2,a3,a4⟩,⟨c1,c2,c3,c4⟩,d1,d2,d3,d4⟩:=hn;obtain⟨m1,m2⟩:=rJ (bx-ax) (cy-ay) O9 O9 O9 O9;obtain⟨m3,m4⟩:=rJ (bY-ay) (cx-ax) O9 O9 O9 O9;have HX:=aa (fun w=>Bz (bx-ax) (bY-ay) (cx-ax) (cy-ay) w O9 O9 O9 O9);have HT1:=aa (fun w=>DR ax ay bx bY w O9 O9 O9 O9);have HT2:=aa (fun w=>DR ax ay cx cy w O9 O9 O9 O9);clear hr HR;go_enter Tryz.func76,Tryz.ntmps76;go_wp2_with fail;refine(HN.out _ _ _ _ (by simp)).mono ?_;rintro _ w1 ⟨rfl,b1⟩
  obtain⟨q1,q2⟩:=dj b1;go_wp2_with fail;refine(HT1.out _).mono ?_;rintro _ w2 ⟨rfl,b2⟩;obtain⟨q3,q4⟩:=dj b2;have hz:=b1.size;simp only[World.size_alloc]at hz;have hz0:w.heap.size<w1.heap.size:=O9;have hz1:w.heap.size+1<w1.heap.size:=O9;have hz2:w.heap.size+1+1<w1.heap.size:=O9;clear hz;go_wp2_with fail;refine(HT2.out _).mono ?_;rintro _ w3 ⟨rfl,b3⟩;go_wp2_with fail;refine(HX.out _).mono ?_;rintro _ w4 ⟨rfl,b4⟩;go_wp2_with fail;refine(pP _ _ _).mono ?_;rintro _ _ ⟨rfl,rfl⟩;go_wp2_with fail;go_ret
  exact⟨cW HR2.out.symm,aq (aq (aq (aq ((((Below.refl _ _).alloc (Nat.le_refl _) _).alloc (by simp) _).alloc (by simp;omega) _) b1) b2) b3) b4⟩
theorem aW{w:World}{g:Nat}{a b:Value}{t:TypeId}(h:w.heap[g]? =some (.cells #[a,b] t (0,0))):(w.cell? ⟨g,0,none⟩=some a∧w.cell? ⟨g,1,none⟩=some b)∧(w.frozen? ⟨g,0,none⟩=false∧w.frozen? ⟨g,1,none⟩=false):=
 ⟨⟨cell_of_row w g 0 _ t _ h,cell_of_row w g 1 _ t _ h⟩,frozen_of_row w g 0 _ t h,frozen_of_row w g 1 _ t h⟩
theorem aE{w:World}{g:Nat}{a b c d:Value}{t:TypeId}(h:w.heap[g]? =some (.cells #[a,b,c,d] t (0,0))):(w.cell? ⟨g,0,none⟩=some a∧w.cell? ⟨g,1,none⟩=some b∧w.cell? ⟨g,2,none⟩=some c∧w.cell? ⟨g,3,none⟩=some d)∧(w.frozen? ⟨g,0,none⟩=false∧w.frozen? ⟨g,1,none⟩=false∧w.frozen? ⟨g,2,none⟩=false∧w.frozen? ⟨g,3,none⟩=false):=
 ⟨⟨cell_of_row w g 0 _ t _ h,cell_of_row w g 1 _ t _ h,cell_of_row w g 2 _ t _ h,cell_of_row w g 3 _ t _ h⟩,frozen_of_row w g 0 _ t h,frozen_of_row w g 1 _ t h,frozen_of_row w g 2 _ t h,frozen_of_row w g 3 _ t h⟩
theorem ai{w w':World}{g:Nat}{o:Obj}(hb:Below w.heap.size w w')(h:w.heap[g]? =some o):w'.heap[g]? =some o:=(hb.block g (lt_of_block h)).trans h
theorem dU{w:World}{g:Nat}{o:Obj}(x:Obj)(h:w.heap[g]? =some o):(w.alloc x).heap[g]? =some o:=(heap_alloc_old w x (lt_of_block h)).trans h
theorem cj(w:World)(o:Obj)(g:Nat)(hg:w.heap.size=g):(w.alloc o).heap[g]? =some o:=by subst hg;exact heap_alloc_new w o
def IV(w:World)(g:Nat)(ps:List (Int×Int)):Prop:=eI w g (ps.map fun p=>⟨p.1,p.2⟩)
theorem Gh(ts:List (Int×Int))(k:Nat)(h:k<ts.length):ts.drop k=ts[k]::ts.drop (k+1):=List.drop_eq_getElem_cons h
theorem BB(g c:Nat)(ps:List (Int×Int))(w:World)(hn:ps.length≤1000)(hg:g<w.heap.size)(h:IV w g ps):Calls Tryz.prog 189 #[.slice (some ⟨g,0,none⟩) ps.length c] w fun e w'=>e= .returned (.int .i64 (jq ps))∧Below w.heap.size w w':=by
 obtain⟨R,hR⟩:∃R,R=jq ps:=⟨_,rfl⟩;rw[←hR];have HR:=aa hR;have H1:=aa h;clear h hR;obtain⟨n,hnn⟩:∃n,n=ps.length:=⟨_,rfl⟩;rw[←hnn];have hn1:n≤ps.length:=O9;have hn2:ps.length≤n:=O9;clear hnn;go_enter Tryz.func189,Tryz.ntmps189;go_wp2;go_loopw [8] (fun i wr=>∃k:Nat,k≤n∧i= .int .i64 k∧Below w.heap.size w wr∧Hid (jq (ps.drop k)=R)) (fun i _=>n-(intOf i).toNat)
 case atStart=>exact⟨0,Nat.zero_le _,rfl,Below.refl _ _,HR.out.symm⟩
 case round=>
  obtain⟨k,hk,rfl,hb,hrel⟩:=hrel;by_cases hlt:k<n
  ·(have hka:k<ps.length:=by omega);have HA:=aa (Gh ps k hka);obtain⟨k1,k2⟩:=(eI.below H1.out hg hb) k ⟨ps[k].1,ps[k].2⟩ (by simp[List.getElem?_eq_getElem hka]);generalize ps[k]=p at*;have HS:Hid (jq (p::ps.drop (k+1))=R):=by
    have:=hrel.out;rw[HA.out]at this;exact this
   clear hka HA hrel;obtain⟨a,b⟩:=p;simp only at k1 k2;have b1:(0:Int)≤k:=O9;have b2:(k:Int)<n:=O9;have HC:=aa (pP a b);obtain⟨cc,hcc⟩:∃cc,cc=eO a b:=⟨_,rfl⟩;rw[←hcc]at HC;have HCC:=aa hcc;clear hcc;by_cases h0:cc=0
   ·subst h0;have hs2:jq (ps.drop (k+1))=R:=by
     have:=HS.out;rw[jq,if_neg (by simp[←HCC.out])]at this;exact this
    have HS2:=aa hs2;clear hs2;go_wp2_with fail;refine(HC.out _).mono ?_;rintro _ _ ⟨rfl,rfl⟩;go_wp2_with fail;refine⟨⟨k+1,O9,by go_num,hb.alloc hb.size _,HS2.out⟩,?_⟩;simp[intOf];omega
   ·have hs2:cc=R:=by
     have:=HS.out;rw[jq,if_pos (by simp only;rw[←HCC.out];exact h0),←HCC.out]at this;exact this
    have HS2:=aa hs2;(have h1:(cc != 0)=true:=by rw[bne_iff_ne];exact h0);clear hs2 h0;go_wp2_with fail;refine(HC.out _).mono ?_;rintro _ _ ⟨rfl,rfl⟩;go_wp2_with fail;go_ret;exact⟨cW HS2.out,hb.alloc hb.size _⟩
  ·(have hr:R=0:=by rw[←hrel.out,List.drop_eq_nil_of_le O9];rfl);have HR2:=aa hr;clear hr hrel;go_wp2_with fail;go_ret;exact⟨cW HR2.out.symm,hb⟩
theorem Ib(a b c d:Int)(w:World)(t:TypeId)(g k:Nat)(hg:w.heap.size=g):Calls Tryz.prog 189 #[.slice (some ⟨g,0,none⟩) 2 k] (w.alloc (.cells #[.int .i64 a,.int .i64 b,.int .i64 c,.int .i64 d] t)) fun e w'=>e= .returned (.int .i64 (aN ⟨a,c⟩ ⟨b,d⟩))∧Below w.heap.size w w':=by
 subst hg;refine(BB w.heap.size k [(a,b),(c,d)] _ (by simp) (by simp) (rK w t [⟨a,b⟩,⟨c,d⟩] [.int .i64 a,.int .i64 b,.int .i64 c,.int .i64 d] rfl)).mono ?_;rintro e w' ⟨rfl,hb⟩;rw[xX];exact⟨rfl,aq ((Below.refl _ _).alloc (Nat.le_refl _) _) hb⟩
theorem dD(ax ay bx bY:Int)(w:World):Calls Tryz.prog 125 #[.agg #[.int .i64 ax,.int .i64 ay],.agg #[.int .i64 bx,.int .i64 bY]] w fun e w'=>e= .returned (.int .i64 (aN ⟨ax,ay⟩ ⟨bx,bY⟩))∧Below w.heap.size w w':=by
 have HF:=aa (Ib ax bx ay bY);go_enter Tryz.func125,Tryz.ntmps125;go_wp2_with fail;refine(HF.out _ _ _ _ (by simp)).mono ?_;rintro _ w1 ⟨rfl,b1⟩;go_wp2_with fail;go_ret;exact⟨rfl,aq (((Below.refl _ _).alloc (Nat.le_refl _) _).alloc (by simp) _) b1⟩
theorem cJ(ax ay bx bY:Int)(w:World):Calls Tryz.prog 75 #[.agg #[.int .i64 ax,.int .i64 ay,.int .i64 bx,.int .i64 bY]] w fun e w'=>e= .returned (vS (aO ⟨⟨ax,ay⟩,⟨bx,bY⟩⟩))∧Below w.heap.size w w':=by
 have HC:=aa (dD ax ay bx bY);obtain⟨cc,hcc⟩:∃cc,cc=aN ⟨ax,ay⟩ ⟨bx,bY⟩:=⟨_,rfl⟩;rw[←hcc]at HC;by_cases h0:0<cc
 ·have hs:vS (aO ⟨⟨ax,ay⟩,⟨bx,bY⟩⟩)= .agg #[.int .i64 bx,.int .i64 bY,.int .i64 ax,.int .i64 ay]:=by
   simp only[aO,←hcc,h0,if_true,vS]
  rw[hs];clear hs hcc;go_enter Tryz.func75,Tryz.ntmps75;go_wp2_with fail;refine(HC.out _).mono ?_;rintro _ w1 ⟨rfl,b1⟩;obtain⟨⟨q1,q2,q3,q4⟩,p1,p2,p3,p4⟩:=aE (ai b1 (dU _ (heap_alloc_new w _)));obtain⟨⟨r1,r2,r3,r4⟩,s1,s2,s3,s4⟩:=aE (show w1.heap[w.heap.size+1]? =some (Obj.cells #[.int .i64 0,.int .i64 0,.int .i64 0,.int .i64 0] 68 (0,0))from ai b1 (cj _ _ _ (by simp)));have hz:=b1.size;simp only[World.size_alloc]at hz;have hz0:w.heap.size<w1.heap.size:=O9;have hz1:w.heap.size+1<w1.heap.size:=O9
  clear hz;go_wp2_with fail;have hB:=aq (((Below.refl _ w).alloc (Nat.le_refl _) _).alloc (by simp) _) b1;exact bodyPost_ret (v:=.agg #[.int .i64 bx,.int .i64 bY,.int .i64 ax,.int .i64 ay]) (by simp[results,Tryz.results75,go_sem,r1,r2,r3,r4]) rfl
   ⟨rfl,(((((((hB.setCell (by simp) _).setCell (by simp) _).setCell (by simp) _).setCell (by simp) _).setCell (by simp) _).setCell (by simp) _).setCell (by simp) _).setCell (by simp) _⟩
 ·have hs:vS (aO ⟨⟨ax,ay⟩,⟨bx,bY⟩⟩)= .agg #[.int .i64 ax,.int .i64 ay,.int .i64 bx,.int .i64 bY]:=by
   simp only[aO,←hcc,h0,if_false,vS]
  rw[hs];clear hs hcc;go_enter Tryz.func75,Tryz.ntmps75;go_wp2_with fail;refine(HC.out _).mono ?_;rintro _ w1 ⟨rfl,b1⟩;obtain⟨⟨q1,q2,q3,q4⟩,p1,p2,p3,p4⟩:=aE (ai b1 (dU _ (heap_alloc_new w _)));obtain⟨⟨r1,r2,r3,r4⟩,s1,s2,s3,s4⟩:=aE (show w1.heap[w.heap.size+1]? =some (Obj.cells #[.int .i64 0,.int .i64 0,.int .i64 0,.int .i64 0] 68 (0,0))from ai b1 (cj _ _ _ (by simp)));have hz:=b1.size;simp only[World.size_alloc]at hz;have hz0:w.heap.size<w1.heap.size:=O9;have hz1:w.heap.size+1<w1.heap.size:=O9
  clear hz;go_wp2_with fail;have hB:=aq (((Below.refl _ w).alloc (Nat.le_refl _) _).alloc (by simp) _) b1;exact bodyPost_ret (v:=.agg #[.int .i64 ax,.int .i64 ay,.int .i64 bx,.int .i64 bY]) (by simp[results,Tryz.results75,go_sem,r1,r2,r3,r4]) rfl
   ⟨rfl,(((hB.setCell (by simp) _).setCell (by simp) _).setCell (by simp) _).setCell (by simp) _⟩
def dO(a b c d:Int):Bool:=a ==c&&b ==d
theorem fp(p q:Pt):dO p.x p.y q.x q.y=decide (p=q):=by
 obtain⟨a,b⟩:=p;obtain⟨c,d⟩:=q;rw[Bool.eq_iff_iff];simp[dO]
@[go_sem ↓] theorem JK(a b c d:Int)(w:World):(Op.equalIn 10000 44 (.agg #[.int .i64 a,.int .i64 b]) (.agg #[.int .i64 c,.int .i64 d])).run Tryz.prog w= .ok (dO a b c d) w:=by
 have u3:=Tryz.underlying3;have a3:=Tryz.isAgg3;have z3:=Tryz.sizeOf3;have hS:Tryz.prog.underlying 44=some (.struct (Tryz.prog.fieldsOf 44)):=K9;have hp:Tryz.prog.stoodInHeld 44=false:=K9;rw[show(10000:Nat)=9999+1 from rfl,run_equalIn_agg w 9999 44 _ _ hS hp];simp only[Program.fieldsOf,Tryz.underlying44];go_simp;unfold dO;by_cases h1:a=c<;>by_cases h2:b=d<;>simp[h1,h2]
theorem IW(a b c d:Int)(w:World):(Op.equalIn 9999 44 (.agg #[.int .i64 a,.int .i64 b]) (.agg #[.int .i64 c,.int .i64 d])).run Tryz.prog w= .ok (dO a b c d) w:=by
 have u3:=Tryz.underlying3;have a3:=Tryz.isAgg3;have z3:=Tryz.sizeOf3;have hS:Tryz.prog.underlying 44=some (.struct (Tryz.prog.fieldsOf 44)):=K9;have hp:Tryz.prog.stoodInHeld 44=false:=K9;rw[show(9999:Nat)=9998+1 from rfl,run_equalIn_agg w 9998 44 _ _ hS hp];simp only[Program.fieldsOf,Tryz.underlying44];go_simp;unfold dO;by_cases h1:a=c<;>by_cases h2:b=d<;>simp[h1,h2]
@[go_sem] theorem Jl(op:BinOp)(x y:Operand)(xs ys:Array Value)(w:World):(eqGuard op 44 x y (.agg xs) (.agg ys)).run Tryz.prog w= .ok () w:=
 run_eqGuard_agg w op 44 x y xs ys K9
def qc(a b c d e f g h:Int):Bool:=dO a b e f&&dO c d g h
theorem DT(s t:Sg):qc s.a.x s.a.y s.b.x s.b.y t.a.x t.a.y t.b.x t.b.y=decide (s=t):=by
 obtain⟨⟨a,b⟩,⟨c,d⟩⟩:=s;obtain⟨⟨e,f⟩,⟨g,h⟩⟩:=t;rw[Bool.eq_iff_iff];simp[qc,dO]
@[go_sem ↓] theorem JL(a b c d e f g h:Int)(w:World):(Op.equalIn 10000 68 (.agg #[.int .i64 a,.int .i64 b,.int .i64 c,.int .i64 d]) (.agg #[.int .i64 e,.int .i64 f,.int .i64 g,.int .i64 h])).run Tryz.prog w= .ok (qc a b c d e f g h) w:=by
 have a3:=Tryz.isAgg44;have z3:=Tryz.sizeOf44;have hS:Tryz.prog.underlying 68=some (.struct (Tryz.prog.fieldsOf 68)):=K9;have hp:Tryz.prog.stoodInHeld 68=false:=K9;have E:=IW;rw[show(10000:Nat)=9999+1 from rfl,run_equalIn_agg w 9999 68 _ _ hS hp];simp only[Program.fieldsOf,Tryz.underlying68];go_simp;unfold qc;cases dO a b e f<;>cases dO c d g h<;>simp
@[go_sem] theorem Jm(op:BinOp)(x y:Operand)(xs ys:Array Value)(w:World):(eqGuard op 68 x y (.agg xs) (.agg ys)).run Tryz.prog w= .ok () w:=
 run_eqGuard_agg w op 68 x y xs ys K9
end Go.Proofs.YtfkgjbdeicggaaaGreat
namespace Go.Proofs.Pri
open Go.Proofs.Pg
def qd(p:Pt):Prop:= -4194304≤p.x∧p.x≤4194304∧ -4194304≤p.y∧p.y≤4194304
structure Sd where
 i:Nat
 s:Sg
 hi:i<2000
 ha:qd s.a
 hb:qd s.b
def Sd.v(x:Sd):Nat×Sg:=(x.i,x.s)
structure DU(r:List Pt):Prop where
 few:r.length≤2000
 pts:∀p∈r,qd p
def at0(r:List Pt)(i:Nat):Pt:=r[i]?.getD ⟨0,0⟩
theorem at0_some(r:List Pt)(i:Nat)(h:i<r.length):r[i]? =some (at0 r i):=by
 unfold at0;rw[List.getElem?_eq_getElem h];rfl
def sideAt(r:List Pt)(i:Nat):Sg:=⟨at0 r i,at0 r ((i+1)%r.length)⟩
def sidesL(r:List Pt):List (Nat×Sg):=(List.range r.length).map fun i=>(i,sideAt r i)
def upto(r:List Pt)(k:Nat):List (Nat×Sg):=(List.range k).map fun i=>(i,sideAt r i)
theorem rL(r:List Pt)(k:Nat):upto r (k+1)=upto r k++[(k,sideAt r k)]:=by
 unfold upto;rw[List.range_succ,List.map_append];rfl
theorem DV(r:List Pt):upto r r.length=sidesL r:=rfl
theorem uR(r:List Pt)(k:Nat)(h:k≤r.length):upto r k<+:sidesL r:=by
 unfold upto sidesL;refine List.IsPrefix.map _ ?_;have:List.range k=(List.range r.length).take k:=by rw[List.take_range,Nat.min_eq_left h]
 rw[this];exact List.take_prefix _ _
theorem uS(r:List Pt)(k:Nat):(upto r k).length=k:=by simp[upto]
theorem DU.at0{r:List Pt}(h:DU r)(i:Nat)(hi:i<r.length):qd (at0 r i):=by
 refine h.pts _ ?_;have:=at0_some r i hi;exact List.mem_of_getElem? this
theorem BC(p:Pt)(h:aF p=true):qd p:=by rw[fF]at h;exact⟨O9,O9,O9,O9⟩
def regB(r:List Pt):Bool:=decide (3≤r.length)&&decide (r.length≤2000)&&aD r
def term(x:Nat×Sg):Int:=(x.2.a.x+x.2.b.x)*(x.2.b.y-x.2.a.y)
def sumT:List (Nat×Sg)→Int
 | []=>0
 |x::l=>term x+sumT l
theorem DW(a b:List (Nat×Sg)):sumT (a++b)=sumT a+sumT b:=by
 induction a with
 |nil=>simp[sumT]
 |cons x l c=>simp only[List.cons_append,sumT,c];omega
def twice(r:List Pt):Int:=if regB r then sumT (sidesL r)else 0
theorem Ae(x:Sd): -70368744177664≤term x.v∧term x.v≤70368744177664:=by
 obtain⟨a1,a2,a3,a4⟩:=x.ha;obtain⟨b1,b2,c,d⟩:=x.hb;exact pO 8388608 (x.s.a.x+x.s.b.x) (x.s.b.y-x.s.a.y) O9 O9 O9 O9
theorem Gi(l:List Sd): -((l.length:Int)*70368744177664)≤sumT (l.map Sd.v)∧sumT (l.map Sd.v)≤(l.length:Int)*70368744177664:=by
 induction l with
 |nil=>simp[sumT]
 |cons x l a=>
  have:=Ae x;simp only[List.map_cons,sumT,List.length_cons];push_cast;omega
theorem regB_iff(r:List Pt):regB r=true↔(3≤r.length∧r.length≤2000∧aD r=true):=by
 unfold regB;simp only[Bool.and_eq_true,decide_eq_true_eq,and_assoc]
theorem rM(r:List Pt)(h:aD r=true):∀p∈r,aF p=true:=by
 induction r with
 |nil=>intro p hp;cases hp
 |cons q r a=>
  simp only[aD,Bool.and_eq_true]at h;intro p hp;rcases List.mem_cons.1 hp with e|e
  ·rw[e];exact h.1
  ·exact a h.2 p e
theorem rN(r:List Pt)(h:regB r=true):DU r∧3≤r.length:=by
 obtain⟨a,b,c⟩:=(regB_iff r).1 h;exact⟨⟨b,fun p hp=>BC p (rM r c p hp)⟩,a⟩
def IX(p:Pt):Prop:= -8388608≤p.x∧p.x≤8388608∧ -8388608≤p.y∧p.y≤8388608
theorem qd.wide{p:Pt}(h:qd p):IX p:=by obtain⟨a,b,c,d⟩:=h;exact⟨O9,O9,O9,O9⟩
def DX(a b c:Pt):Int:=(b.x-a.x)*(c.y-b.y)-(b.y-a.y)*(c.x-b.x)
def IY(a n b:Int):Bool:=decide (a≤n∨b≤n)&&decide (n≤a∨n≤b)
def Js(s:Sg)(p:Pt):Bool:=DX s.a s.b p ==0&&IY s.a.x p.x s.b.x&&IY s.a.y p.y s.b.y
def JM(s:Sg)(p:Pt):Bool:=decide (s.a.y≤p.y)&&decide (p.y<s.b.y)&&decide (0<DX s.a s.b p)
def IZ(s:Sg)(p:Pt):Bool:=decide (p.y<s.a.y)&&decide (s.b.y≤p.y)&&decide (DX s.a s.b p<0)
def I0(s:Sg)(p:Pt):Int:=if JM s p then 1 else if IZ s p then-1 else 0
def Ht(p:Pt):List (Nat×Sg)→Int
 | []=>0
 |x::l=>I0 x.2 p+Ht p l
def hitL(p:Pt):List (Nat×Sg)→Bool
 | []=>false
 |x::l=>Js x.2 p||hitL p l
def Gj(p:Pt)(l:List (Nat×Sg)):Int:=if hitL p l then 0 else if Ht p l=0 then-1 else 1
def Ic(r:List Pt)(p:Pt):Int:=Gj p (sidesL r)
def chi(a b p:Pt):Int:=if a.y≤p.y∧p.y<b.y∧0<ae a b p then 1 else if b.y≤p.y∧p.y<a.y∧ae a b p<0 then-1 else 0
def hs(p q v:Pt):Int:=if p.y<v.y∧v.y≤q.y∧ae p q v<0 then 1 else if q.y<v.y∧v.y≤p.y∧0<ae p q v then-1 else 0
def apart(p q a b:Pt):Prop:=(0<ae p q a∧0<ae p q b)∨(ae p q a<0∧ae p q b<0)∨(0<ae a b p∧0<ae a b q)∨(ae a b p<0∧ae a b q<0)∨(ae p q a=0∧ae p q b=0∧ae a b p=0∧ae a b q=0)
theorem kF{d:Int}(a:0<d)(x:Int):(0<x∧0<x*d)∨(x<0∧x*d<0)∨(x=0∧x*d=0):=by
 rcases Int.lt_trichotomy x 0 with h|h|h
 ·exact .inr (.inl ⟨h,Int.mul_neg_of_neg_of_pos h a⟩)
 ·exact .inr (.inr ⟨h,by rw[h,Int.zero_mul]⟩)
 ·exact .inl ⟨h,Int.mul_pos h a⟩
theorem BD{d:Int}(a:d<0)(x:Int):(0<x∧x*d<0)∨(x<0∧0<x*d)∨(x=0∧x*d=0):=by
 have:=kF (d:= -d) O9 x;rw[Int.mul_neg]at this;omega
theorem DY{d:Int}(a:0≤d)(x:Int):(0<x∧0≤x*d)∨(x<0∧x*d≤0)∨(x=0∧x*d=0):=by
 rcases Int.lt_or_eq_of_le a with h|h
 ·have:=kF h x;omega
 ·rw[←h,Int.mul_zero];omega
theorem Ie{d:Int}(a:d≤0)(x:Int):(0<x∧x*d≤0)∨(x<0∧0≤x*d)∨(x=0∧x*d=0):=by
 have:=DY (d:= -d) O9 x;rw[Int.mul_neg]at this;omega
theorem fT(a b p:Pt):chi b a p= -chi a b p:=by
 have h:ae b a p= -ae a b p:=by unfold ae;grind
 unfold chi;rw[h]
 (repeat' split)<;>omega
theorem lD(p q v:Pt):hs q p v= -hs p q v:=by
 have h:ae q p v= -ae p q v:=by unfold ae;grind
 unfold hs;rw[h]
 (repeat' split)<;>omega
theorem qe{p q a b:Pt}(h:apart p q a b):apart q p a b:=by
 have c:ae q p a= -ae p q a:=by unfold ae;grind
 have d:ae q p b= -ae p q b:=by unfold ae;grind
 unfold apart at*;rw[c,d];omega
theorem i'{p q a b:Pt}(h:apart p q a b):apart p q b a:=by
 have c:ae b a p= -ae a b p:=by unfold ae;grind
 have d:ae b a q= -ae a b q:=by unfold ae;grind
 unfold apart at*;rw[c,d];omega
theorem lE(p q a b:Pt)(j:a.y≤b.y)(k:p.y≤q.y)(h:apart p q a b):chi a b p-chi a b q=hs p q b-hs p q a:=by
 have u:ae p q a*(b.y-p.y)+ae p q b*(p.y-a.y)= -(ae a b p*(q.y-p.y)):=by unfold ae;grind
 have v:ae p q a*(b.y-q.y)+ae p q b*(q.y-a.y)= -(ae a b q*(q.y-p.y)):=by unfold ae;grind
 have w:ae a b p*(q.y-a.y)+ae a b q*(a.y-p.y)= -(ae p q a*(b.y-a.y)):=by unfold ae;grind
 have x:ae a b p*(q.y-b.y)+ae a b q*(b.y-p.y)= -(ae p q b*(b.y-a.y)):=by unfold ae;grind
 unfold apart at h;unfold chi hs;generalize ae a b p=al at*;generalize ae a b q=f at*;generalize ae p q a=g at*;generalize ae p q b=i at*;generalize a.y=ay at*;generalize b.y=c at*;generalize p.y=py at*;generalize q.y=e at*;by_cases c1:ay≤py
 ·by_cases c2:c≤py
  ·(repeat' split)<;>omega
  ·by_cases c3:c≤e
   ·
    have m:(0<al↔i<0):=by
     have g1:=kF (d:=c-py) O9 g;have g2:=DY (d:=py-ay) O9 i;have g3:=kF (d:=e-py) O9 al;have g4:=Ie (d:=c-e) O9 g;have g5:=kF (d:=e-ay) O9 i;have g6:=kF (d:=e-py) O9 f;clear w x;generalize g*(c-py)=l at*;generalize i*(py-ay)=n at*;generalize al*(e-py)=o at*;generalize g*(c-e)=r at*;generalize i*(e-ay)=s at*;generalize f*(e-py)=t at*;clear c1 c2 c3 j k;rcases g1 with g1|g1|g1<;>rcases g3 with g3|g3|g3<;>rcases g2 with g2|g2|g2<;>omega
    (repeat' split)<;>omega
   ·
    have m:(0<al↔0<f):=by
     have g1:=DY (d:=e-ay) O9 al;have g2:=Ie (d:=ay-py) O9 f;have g3:=kF (d:=c-ay) O9 g;have g4:=BD (d:=e-c) O9 al;have g5:=kF (d:=c-py) O9 f;have g6:=kF (d:=c-ay) O9 i;clear u v;generalize al*(e-ay)=l at*;generalize f*(ay-py)=n at*;generalize g*(c-ay)=o at*;generalize al*(e-c)=r at*;generalize f*(c-py)=s at*;generalize i*(c-ay)=t at*;clear c1 c2 c3 j k;rcases g1 with g1|g1|g1<;>rcases g3 with g3|g3|g3<;>rcases g2 with g2|g2|g2<;>omega
    (repeat' split)<;>omega
 ·by_cases c2:e<ay
  ·(repeat' split)<;>omega
  ·by_cases c3:c≤e
   ·
    have m:(i<0↔g<0):=by
     have g1:=kF (d:=c-py) O9 g;have g2:=BD (d:=py-ay) O9 i;have g3:=kF (d:=e-py) O9 al;have g4:=Ie (d:=c-e) O9 g;have g5:=DY (d:=e-ay) O9 i;have g6:=kF (d:=e-py) O9 f;clear w x;generalize g*(c-py)=l at*;generalize i*(py-ay)=n at*;generalize al*(e-py)=o at*;generalize g*(c-e)=r at*;generalize i*(e-ay)=s at*;generalize f*(e-py)=t at*;clear c1 c2 c3 j k;rcases g1 with g1|g1|g1<;>rcases g3 with g3|g3|g3<;>rcases g2 with g2|g2|g2<;>omega
    (repeat' split)<;>omega
   ·
    have m:(0<f↔g<0):=by
     have g1:=DY (d:=e-ay) O9 al;have g2:=kF (d:=ay-py) O9 f;have g3:=kF (d:=c-ay) O9 g;have g4:=BD (d:=e-c) O9 al;have g5:=kF (d:=c-py) O9 f;have g6:=kF (d:=c-ay) O9 i;clear u v;generalize al*(e-ay)=l at*;generalize f*(ay-py)=n at*;generalize g*(c-ay)=o at*;generalize al*(e-c)=r at*;generalize f*(c-py)=s at*;generalize i*(c-ay)=t at*;clear c1 c2 c3 j k;rcases g1 with g1|g1|g1<;>rcases g3 with g3|g3|g3<;>rcases g2 with g2|g2|g2<;>omega
    (repeat' split)<;>omega
theorem qf(p q a b:Pt)(h:apart p q a b):chi a b p-chi a b q=hs p q b-hs p q a:=by
 by_cases d:a.y≤b.y
 ·by_cases c:p.y≤q.y
  ·exact lE p q a b d c h
  ·have:=lE q p a b d O9 (qe h);rw[lD p q,lD p q]at this;omega
 ·by_cases c:p.y≤q.y
  ·have:=lE p q b a O9 c (i' h);rw[fT a b,fT a b]at this;omega
  ·have:=lE q p b a O9 O9 (qe (i' h));rw[lD p q,lD p q,fT a b,fT a b]at this;omega
def kk(p q:Pt):Int:=if p.y<q.y∨(p.y=q.y∧q.x<p.x)then 1 else 0
structure Corner(a b c:Pt):Prop where
 ab:a≠b
 bc:b≠c
 str:ae a b c=0→(a.y<b.y∧b.y<c.y)∨(b.y<a.y∧c.y<b.y)∨(a.y=b.y∧b.y=c.y∧((a.x<b.x∧b.x<c.x)∨(b.x<a.x∧c.x<b.x)))
def jj(a b c:Pt):Int:=if 0<ae a b c∧c.y<b.y∧a.y≤b.y then 1 else if ae a b c<0∧b.y<a.y∧b.y≤c.y then-1 else 0
theorem ir(a b c:Pt):ae b c a=ae a b c:=by unfold ae;grind
theorem DZ(a b c:Pt):chi a b c-hs b c a=jj a b c:=by
 unfold chi hs jj;rw[ir a b c]
 (repeat' split)<;>omega
theorem pt_ne{a b:Pt}(h:a≠b):a.x≠b.x∨a.y≠b.y:=by
 by_cases c:a.x=b.x
 ·by_cases d:a.y=b.y
  ·exact(h (by cases a;cases b;simp_all)).elim
  ·exact .inr d
 ·exact .inl c
theorem D6(a b c:Pt)(h:Corner a b c):chi b c a-hs a b c+kk a b=jj a b c+kk b c:=by
 have i:=pt_ne h.ab;have j:=pt_ne h.bc;have l:=h.str;have f:a.y=b.y→ae a b c=(b.x-a.x)*(c.y-a.y):=by intro e;unfold ae;rw[e];grind
 have g:b.y=c.y→ae a b c=(c.x-b.x)*(a.y-b.y):=by intro e;unfold ae;rw[←e];grind
 unfold chi hs jj kk;rw[ir a b c];clear h;generalize ae a b c=k at*;by_cases f1:a.y=b.y
 ·have f:=f f1;by_cases f2:b.y=c.y
  ·(have:k=0:=by rw[f,←f2,←f1];simp);clear f g
   (repeat' split)<;>omega
  ·rcases Int.lt_trichotomy c.y a.y with f3|f3|f3
   ·have:=BD (d:=c.y-a.y) O9 (b.x-a.x);rw[←f]at this;clear f g
    (repeat' split)<;>omega
   ·omega
   ·have:=kF (d:=c.y-a.y) O9 (b.x-a.x);rw[←f]at this;clear f g
    (repeat' split)<;>omega
 ·by_cases f2:b.y=c.y
  ·have g:=g f2;rcases Int.lt_trichotomy a.y b.y with f3|f3|f3
   ·have:=BD (d:=a.y-b.y) O9 (c.x-b.x);rw[←g]at this;clear f g
    (repeat' split)<;>omega
   ·omega
   ·have:=kF (d:=a.y-b.y) O9 (c.x-b.x);rw[←g]at this;clear f g
    (repeat' split)<;>omega
  ·clear f g
   (repeat' split)<;>omega
def sm(f:Nat→Int):Nat→Nat→Int
 |_,0=>0
 |i,n+1=>f i+sm f (i+1) n
theorem fy(f:Nat→Int)(i n:Nat):sm f i (n+1)=f i+sm f (i+1) n:=rfl
theorem tB(f:Nat→Int)(i n:Nat):sm f i (n+1)=sm f i n+f (i+n):=by
 induction n generalizing i with
 |zero=>simp[sm]
 |succ n a=>rw[fy,a (i+1),fy,Int.add_assoc];congr 3;omega
theorem iu(f g:Nat→Int)(i n:Nat)(h:∀k,i≤k→k<i+n→f k=g k):sm f i n=sm g i n:=by
 induction n generalizing i with
 |zero=>rfl
 |succ n a=>rw[fy,fy,h i O9 O9,a (i+1) (fun k b c=>h k O9 O9)]
def BE(p q a b:Pt):Prop:=p.y=q.y∨a.y=b.y∨(p.y<a.y∧p.y<b.y∧q.y<a.y∧q.y<b.y)∨(a.y<p.y∧b.y<p.y∧a.y<q.y∧b.y<q.y)
structure Poly(P:Nat→Pt)(n:Nat):Prop where
 three:3≤n
 per:∀i,P (i+n)=P i
 cor:∀i,Corner (P i) (P (i+1)) (P (i+2))
 far:∀i k,2≤k→k+2≤n→apart (P i) (P (i+1)) (P (i+k)) (P (i+k+1))
 sep:∀i k,2≤k→k+2≤n→ae (P i) (P (i+1)) (P (i+k))=0→ae (P i) (P (i+1)) (P (i+k+1))=0→BE (P i) (P (i+1)) (P (i+k)) (P (i+k+1))
def tt(P:Nat→Pt)(n i:Nat):Int:=sm (fun j=>chi (P j) (P (j+1)) (P i)) (i+1) (n-2)
structure Jt(b c q:Pt):Prop where
 up:b.y<c.y↔b.y<q.y
 down:c.y<b.y↔q.y<b.y
 crs:∀a,(0<ae a b q↔0<ae a b c)∧(ae a b q<0↔ae a b c<0)
theorem Jt.jj{a b c q:Pt}(h:Jt b c q):jj a b q=jj a b c:=by
 obtain⟨d,e⟩:=h.crs a;have f:=h.up;have g:=h.down;unfold Pri.jj
 (repeat' split)<;>omega
