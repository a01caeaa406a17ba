/-
  The cycles of steps.
-/
import Derived.Test.YtfkgjbdeicggaaaGreatZg
namespace Go.Proofs.YtfkgjbdeicggaaaGreat
open Go.RowKit Go.Proofs.Px Go.Proofs.Pn Go.Proofs.Pm Go.Proofs.Pg Go.Proofs.Pto Go.Proofs.Pf
theorem xt:(114:Nat)<Tryz.prog.types.size:=of_decide_eq_true K9
theorem FH:WideMaps.KeyLaw Tryz.prog 114:=deep_law_laid ld (m:=3) O9 xt K9 K9
theorem re:Tryz.prog.cellsOf 114=2:=K9
theorem zE:Tryz.prog.keyType 114=true:=K9
theorem FI(a:Pr)(h:iI a):keyOf Tryz.prog 114 (uN a)=some (IQ a):=by
 obtain⟨d,hd⟩:∃d,Tryz.prog.types.size+1=d+2:=⟨Tryz.prog.types.size-1,by have:(114:Nat)<Tryz.prog.types.size:=xt;omega⟩;have hf:a.1.size≤maxLen:=Nat.le_trans h.1 (by unfold maxLen;omega);have ht:a.2.size≤maxLen:=Nat.le_trans h.2 (by unfold maxLen;omega);have hfm:(uN a).formed Tryz.prog 114=true:=by
  simp[uN,Value.formed,Tryz.underlying114,re]
 unfold keyOf;rw[Tryz.underlying114];simp only;rw[zE,hfm,hd];simp[uN,IQ,Program.keyLits,Tryz.underlying114,Tryz.underlying9,re,gJ,Value.cells,hf,ht]
abbrev kn(w:World)(b:Nat)(l:List (Pr×Value)):Prop:=dV (kS Tryz.prog 114 (Maps.Keyed.of_law FH) FI) w b l
structure kE(B:Nat)(xs:List (Value×List BA))(v:Value)(W:World):Prop where
 own:W.ownsRow B 39 1 v xs.length (xs.map Prod.fst)
 row:∀x∈xs,W.ownsRow B 9 1 x.1 x.2.length (x.2.map .string)
theorem kE.kept{B:Nat}{xs:List (Value×List BA)}{v:Value}{W W':World}{row:Option Nat}(h:kE B xs v W)(hg:W.grownBy W' row)(h1:∀b,v.ownBlock=some b→row≠some b)(h2:∀x∈xs,∀b,x.1.ownBlock=some b→row≠some b):kE B xs v W':=
 ⟨bG h.own hg h1,fun x hx=>bG (h.row x hx) hg (h2 x hx)⟩
theorem kE.below{B:Nat}{xs:List (Value×List BA)}{v:Value}{W W':World}(h:kE B xs v W)(hb:Below W.heap.size W W'):kE B xs v W':=⟨ao h.own hb,fun x hx=>ao (h.row x hx) hb⟩
theorem kE.map{B:Nat}{xs:List (Value×List BA)}{v:Value}{W W':World}{b:Nat}(h:kE B xs v W)(hg:W.grownBy W' (some b))(hb:∃es c,W.heap[b]? =some (.map es c)):kE B xs v W':=
 h.kept hg (fun g hg' e=>aH h.own hb (by rw[hg',e])) (fun x hx g hg' e=>aH (h.row x hx) hb (by rw[hg',e]))
theorem kE.iter{B:Nat}{xs:List (Value×List BA)}{v:Value}{W W':World}{b:Nat}(h:kE B xs v W)(hg:W.grownBy W' (some b))(hb:∃m s e c,W.heap[b]? =some (.mapIter m s e c)):kE B xs v W':=
 h.kept hg (fun g hg' e=>bZ h.own hb (by rw[hg',e])) (fun x hx g hg' e=>bZ (h.row x hx) hb (by rw[hg',e]))
theorem kE.none(B:Nat)(W:World):kE B [] (.slice none 0 0) W:=⟨World.ownsRow_nil _ _ _ _,fun _ h=>by cases h⟩
theorem kE.push{B:Nat}{xs:List (Value×List BA)}{v v':Value}{W W':World}{y:Value×List BA}(h:kE B xs v W)(hy:W.ownsRow B 9 1 y.1 y.2.length (y.2.map .string))(hg:W.grownBy W' v.ownBlock)(ho:W'.ownsRow B 39 1 v' (xs.length+1) (xs.map Prod.fst++[y.1])):kE B (xs++[y]) v' W':=by
 have key:∀x,W.ownsRow B 9 1 x.1 x.2.length (x.2.map .string)→W'.ownsRow B 9 1 x.1 x.2.length ((x:Value×List BA).2.map .string):=fun x hx=>bG hx hg (fun b hb e=>bR hx h.own (by decide) b hb e);refine⟨?_,fun x hx=>?_⟩
 ·rw[List.length_append,List.map_append];exact ho
 ·rcases List.mem_append.1 hx with hx|hx
  ·exact key x (h.row x hx)
  ·rw[List.mem_singleton.1 hx];exact key y hy
theorem kE.beside{B:Nat}{xs ys:List (Value×List BA)}{v u:Value}{W W':World}(h:kE B xs v W)(h':kE B ys u W)(hg:W.grownBy W' u.ownBlock)(hne:∀b,v.ownBlock=some b→u.ownBlock≠some b):kE B xs v W':=
 h.kept hg hne (fun x hx b hb e=>bR (h.row x hx) h'.own (by decide) b hb e)
theorem tc(B:Nat)(xs:List (Value×List BA))(v:Value)(W:World)(h:kE B xs v W)(hn:xs.length≤100000)(hl:∀x∈xs,x.2.length≤100000):Calls Tryz.prog 101 #[v,.func (Fn.func 39) #[] #[]] W fun e w'=>e= .returned (.tuple #[])∧∃xs':List (Value×List BA),xs'.Perm xs∧kE B xs' v w'∧W.grownBy w' v.ownBlock:=by
 refine(xp Tryz.sortRows (ok:=fun x:Value×List BA=>W.ownsRow B 9 1 x.1 x.2.length (x.2.map .string)∧x.2.length≤100000) Prod.fst (fun x hx=>?_) (fun x y=>cI x.2 y.2) (Jg fun x: {x:Value×List BA//W.ownsRow B 9 1 x.1 x.2.length (x.2.map .string)∧x.2.length≤100000}=>x.1.2) 39 #[] (enters_of Tryz.func39 K9 rfl) xs (fun x hx=>⟨h.row x hx,hl x hx⟩) v W h.own O9 (fun x y hx hy W' hg=>?_)).mono ?_
 ·rcases hx.1.2 with⟨e,_⟩|⟨g,cap,_,e,_⟩<;>rw[e]<;>rfl
 ·have key:∀x:Value×List BA,W.ownsRow B 9 1 x.1 x.2.length (x.2.map .string)→ff W' x.1 x.2:=fun x hx=>cT (bG hx hg (fun b hb e=>bR hx h.own (by decide) b hb e)) rfl;refine(kg x.2 y.2 x.1 y.1 W' (key x hx.1) (key y hy.1) hx.2 hy.2).mono ?_;rintro e w' ⟨rfl,rfl⟩;exact⟨rfl,aT.refl _⟩
 ·rintro e w' ⟨rfl,xs',h1,_,h3,h4⟩;exact⟨rfl,xs',h1,⟨h3,fun x hx=>bG (h.row x (h1.mem_iff.1 hx)) h4 (fun b hb e=>bR (h.row x (h1.mem_iff.1 hx)) h.own (by decide) b hb e)⟩,h4⟩
theorem td{W0 W W':World}{b:Nat}{row:Option Nat}(h:W0.grownBy W (some b))(hg:W.grownBy W' row)(hr:∀r,row=some r→r=b∨W0.heap.size≤r):W0.grownBy W' (some b):=
 ⟨hg.os.trans h.os,hg.tape.trans h.tape,hg.output.trans h.output,Nat.le_trans h.size hg.size,fun i hi hne=>(hg.block i (Nat.lt_of_lt_of_le hi h.size) (fun e=>by
  rcases hr i e.symm with g|g
  ·exact hne (by rw[g])
  ·omega)).trans (h.block i hi hne)⟩
def lenOf:Value→Nat
 | .slice _ n _=>n
 |_=>0
theorem te{W:World}{B n:Nat}{t:TypeId}{v:Value}{xs:List Value}(h:W.ownsRow B t 1 v n xs):lenOf v=n:=by
 rcases h.2 with⟨rfl,h0⟩|⟨g,cap,_,rfl,_⟩
 ·exact h0.symm
 ·rfl
