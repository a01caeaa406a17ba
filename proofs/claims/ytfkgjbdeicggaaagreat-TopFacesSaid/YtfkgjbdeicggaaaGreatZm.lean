/-
  What the faces hold.
-/
import Derived.Test.YtfkgjbdeicggaaaGreatZM
namespace Go.Proofs.Pf
open Go Go.Proofs.Pg Go.Proofs.Px Go.Proofs.Pn Go.Proofs.Pto
def Bn(l:List Ob)(o:Ob):Bool:=((af l).map (aB l)).any (dr o.id)
def cG(l:List Ob)(o:Ob):Bool:=decide (o.kind=3)&&Bn l o
theorem zM{l:List Ob}(hm:aZ l=true){o:Ob}(b:o∈l)(h:Bn l o=true):(o.kind=2∨o.kind=3)∧o.refs.all (isNode l)=true:=by
 unfold Bn at h;rw[List.any_eq_true]at h;obtain⟨g,d,h⟩:=h;obtain⟨p,hp,rfl⟩:=List.mem_map.1 d;rw[fW]at h;obtain⟨f,a,hb,e⟩:=iH.1 h;have hu:=bP hm;have:f=o:=hu.eq a b e;subst this;unfold bU at hb;split at hb
 case isTrue c=>exact c
 case isFalse=>cases hb
theorem mP{l:List Ob}(hm:aZ l=true){o:Ob}(a:o∈l)(h:cG l o=true):nD l o.refs:=by
 unfold cG at h;rw[Bool.and_eq_true,decide_eq_true_eq]at h;exact tX hm a h.1 (zM hm a h.2).2
def mQ(l M:List Ob)(c:List BA):List BA:=(M.filter fun o=>cG l o&&fk l o.refs (aS c 0,aS c 1)).map (·.id)
def tl(l M:List Ob)(outs:List (List BA)):Nat→List BA
 |0=>[]
 |k+1=>mQ l M (outs.getD k [])
theorem tm(l M:List Ob)(o:Ob)(c:List BA):mQ l (M++[o]) c=mQ l M c++(if (cG l o&&fk l o.refs (aS c 0,aS c 1))=true then [o.id]else []):=by
 unfold mQ;rw[List.filter_append,List.map_append];congr 1;cases h:(cG l o&&fk l o.refs (aS c 0,aS c 1))<;>simp[h]
theorem xz(l M:List Ob)(c:List BA):(mQ l M c).length≤M.length:=by
 unfold mQ;rw[List.length_map];exact List.length_filter_le _ _
theorem FW{l M:List Ob}{o:Ob}(h:cG l o=false)(outs:List (List BA)):∀k,tl l (M++[o]) outs k=tl l M outs k
 |0=>rfl
 |k+1=>by
  show mQ _ _ _=mQ _ _ _;rw[tm,h];simp
theorem dC{α:Type}{l:List α}{i:Nat}{o:α}(h:l[i]? =some o):l.take (i+1)=l.take i++[o]:=by
 rw[List.take_add_one,h];rfl
theorem He{rims:List (List BA)}(b:rims.Nodup){m:Nat}{c:List BA}(d:rims[m]? =some c):c∉rims.take m:=fun h=>by
 have a:(rims.take (m+1)).Nodup:=b.sublist (List.take_sublist _ _);rw[dC d]at a;exact(List.nodup_append.1 a).2.2 c h c (by simp) rfl
theorem xA{rims:List (List BA)}(b:rims.Nodup){m:Nat}{c:List BA}(a:rims[m]? =some c)(at':List BA→Nat)(k q:Nat):(rims.take (m+1)).filter (fun R=>decide ((if R=c then k else at' R)=q))=(rims.take m).filter (fun R=>decide (at' R=q))++(if q=k then [c]else []):=by
 rw[dC a,List.filter_append];congr 1
 ·refine List.filter_congr fun R d=>?_;rw[if_neg (fun e=>He b a (by rw[←e];exact d))]
 ·by_cases e:q=k
  ·subst e;simp
  ·rw[if_neg e];have:¬k=q:=fun h=>e h.symm;simp[this]
theorem Hf{l:List Ob}{nb:BA→List BA}{c:List BA}(h:yE l nb c)(hm:aZ l=true):2≤c.length:=by
 have a:0<c.length:=List.length_pos_iff.2 h.ne;by_cases e:c.length=1
 ·have hs:=(du h).2;refine absurd ?_ (nA hm hs);show aS c 0=aS c 1;rw[←tV c 1,e]
 ·omega
theorem rj{l:List Ob}{r:List BA}(h:nD l r){t:BA}(a:t∈r):∃z∈an l,z.1=t:=by
 obtain⟨i,hi,rfl⟩:=List.mem_iff_getElem.1 a;exact⟨_,h.sub _ (gj (fun e=>by rw[e]at hi;simp at hi) i),iK hi⟩
theorem Bo{l:List Ob}{nb:BA→List BA}{c:List BA}(h:yE l nb c){t:BA}(a:t∈c):∃z∈an l,z.1=t:=by
 obtain⟨i,hi,rfl⟩:=List.mem_iff_getElem.1 a;exact⟨_,h.sub _ (gj h.ne i),iK hi⟩
