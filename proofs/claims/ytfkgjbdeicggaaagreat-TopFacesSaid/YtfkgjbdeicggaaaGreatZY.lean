/-
  The sort of the borders.
-/
import Derived.Test.YtfkgjbdeicggaaaGreatZX
set_option maxHeartbeats 8000000
set_option maxRecDepth 100000
namespace Go.Proofs.YtfkgjbdeicggaaaGreat
open Go.RowKit Go.Proofs.Px Go.Proofs.Pn Go.Proofs.Pm Go.Proofs.Pg Go.Proofs.Pto
def isSl(v:Value):Prop:=∃A n c,v= .slice A n c
theorem ff.isSl{W:World}{v:Value}{l:List BA}(h:ff W v l):isSl v:=by
 obtain⟨A,c,rfl,_⟩:=h;exact⟨_,_,_,rfl⟩
theorem zm(x y:Rw Pr)(w:World)(hx:isSl x.2.1)(hy:isSl y.2.1):Calls Tryz.prog 87 #[.agg (kc x).toArray,.agg (kc y).toArray] w fun e w'=>e= .returned (.int .i64 (GY x.1 y.1))∧aT w w':=by
 obtain⟨⟨a,b⟩,v,ids⟩:=x;obtain⟨⟨c,d⟩,u,ids2⟩:=y;obtain⟨A1,n1,c1,rfl⟩:=hx;obtain⟨A2,n2,c2,rfl⟩:=hy;simp only at*;obtain⟨w2,hw2⟩:∃w2,(w.alloc (.cells (kc ((a,b),(Value.slice A1 n1 c1),ids)).toArray 91)).alloc (.cells (kc ((c,d),(Value.slice A2 n2 c2),ids2)).toArray 91)=w2:=⟨_,rfl⟩;have HG:Hid (aT w w2):=aa (by rw[←hw2];exact((aT.refl _).alloc _).alloc _);have hs:w2.heap.size=w.heap.size+2:=by rw[←hw2];simp
 have h3:=heap_alloc_new w2 (.cells #[.string a,.string c,.string b,.string d] 9);rw[hs]at h3;have HC:=aa (uz (w.heap.size+2) 4 (a,b) (c,d) (w2.alloc (.cells #[.string a,.string c,.string b,.string d] 9)) (cell_of_row _ _ 0 _ _ _ h3) (cell_of_row _ _ 1 _ _ _ h3) (cell_of_row _ _ 2 _ _ _ h3) (cell_of_row _ _ 3 _ _ _ h3));rw[←hw2]at HC HG;unfold kc at HC HG ⊢;clear hw2 hs h3;generalize GY (a,b) (c,d)=R at*;go_enter Tryz.func87,Tryz.ntmps87;go_wp2_with fail;refine HC.out.mono ?_;rintro _ w3 ⟨rfl,hg⟩
 have HG3:=aa ((HG.out.alloc _).trans hg);clear HC hg HG;go_wp2_with fail;go_ret;exact⟨rfl,HG3.out⟩
instance:Inhabited {x:Rw Pr//isSl x.2.1}:=⟨⟨((⟨#[]⟩,⟨#[]⟩),.slice none 0 0,[]),_,_,_,rfl⟩⟩
theorem JG:Sort.SWO (ltOf fun x y: {x:Rw Pr//isSl x.2.1}=>GY x.1.1 y.1.1):=by
 refine⟨fun x=>?_,fun x y z h1 h2=>?_,fun x y z h1 h2=>?_⟩
 ·unfold ltOf;rw[decide_eq_false_iff_not,uw];exact jW _
 ·unfold ltOf at*;rw[decide_eq_true_eq,uw]at*;exact lK h1 h2
 ·unfold ltOf at*;rw[decide_eq_false_iff_not,uw]at*;intro h3;by_cases e:y.1.1=x.1.1
  ·rw[←e]at h3;exact h2 h3
  ·exact h2 (lK (tT h1 e) h3)
theorem zq(B:Nat)(l:List (Rw Pr))(v:Value)(W:World)(h:W.ownsRow B 91 3 v l.length (l.flatMap kc))(hix:∀x∈l,isSl x.2.1)(hlen:l.length≤1000000):Calls Tryz.prog 86 #[v,.func (Fn.func 87) #[] #[]] W fun e w'=>e= .returned (.tuple #[])∧∃l':List (Rw Pr),l'.Perm l∧l'.Pairwise (fun a b=>¬kC b.1 a.1)∧w'.ownsRow B 91 3 v l'.length (l'.flatMap kc)∧W.grownBy w' v.ownBlock:=by
 rcases h.2 with⟨rfl,h0⟩|⟨g,cap,cur,rfl,hB,hb,_⟩
 ·have hl:l=[]:=List.length_eq_zero_iff.1 h0;subst hl;refine(AnyF.slices_SortFunc_none Tryz.sortLines none 0 (.func (Fn.func 87) #[] #[]) W).mono ?_;rintro e w' ⟨rfl,rfl⟩;exact⟨rfl,[],List.Perm.refl _,List.Pairwise.nil,h,⟨rfl,rfl,rfl,Nat.le_refl _,fun _ _ _=>rfl⟩⟩
 ·have hsz:=jK l hix;have hfl:(kv l hix).toList.flatMap (fun x: {x:Rw Pr//isSl x.2.1}=>kc x.1)=l.flatMap kc:=by rw[iS,ft]
  rw[←hsz,←hfl]at h;obtain⟨hg,hH,hw⟩:=nL (enc:=fun x: {x:Rw Pr//isSl x.2.1}=>kc x.1) (k:=3) (fun _=>rfl) (kv l hix) h;have eg:∀args w,(callFunc 87 args).run Tryz.prog w= .ok (.enter 87 args) w:=enters_of Tryz.func87 K9 rfl;have hcon:=AnyQ.slices_SortFunc Tryz.sortLines 3 Tryz.isAgg91 Tryz.sizeOf91 (fun x: {x:Rw Pr//isSl x.2.1}=>kc x.1) (fun _=>rfl)
   (fun x v hv=>by
    obtain⟨x,A,n,c,hx⟩:=x;simp only[kc,List.mem_cons,List.not_mem_nil,or_false]at hv;rcases hv with rfl|rfl|rfl
    ·rfl
    ·rfl
    ·rw[hx];rfl)
   (fun x y=>GY x.1.1 y.1.1) JG 87 #[] g 0 cap (kv l hix) W eg (fun _ _ _ _ x y=>zm x.1 y.1 _ x.2 y.2) hH hg (by rw[hsz];omega)
  rw[hsz]at hcon;refine hcon.mono ?_;rintro e w' ⟨rfl,d',n,os,hp,hs,rfl⟩;rw[←hsz]at hp hs;obtain⟨hd,hpm⟩:=lg hp;obtain⟨ho,hgr⟩:=hw d' n os hd;have hl':(d'.toList.map Subtype.val).length=l.length:=by rw[List.length_map,Array.length_toList,hd,hsz]
  refine⟨rfl,d'.toList.map Subtype.val,by rw[ft]at hpm;exact hpm,(j6 (cf:=fun x y=>GY x.1 y.1) hd hs).imp (fun h1 h2=>h1 ((uw _ _).2 h2)),?_,hgr⟩;rw[iS,hsz]at ho;rw[hl'];exact ho
