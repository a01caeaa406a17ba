/-
  ref11.Valid and ref13.Valid, walked (from wip/net, pruned).
-/
import Derived.Test.YtfkgjbdeicggaaaGreatZR
set_option maxHeartbeats 16000000
set_option maxRecDepth 100000
namespace Go.Proofs.YtfkgjbdeicggaaaGreat
open Go.RowKit Go.Proofs.Px Go.Proofs.Pn Go.Proofs.Pm
theorem eE{W:World}{b:Nat}{a0 a1 a2 a3 a4 a5:Value}{t:TypeId}(h:W.heap[b]? =some (.cells #[a0,a1,a2,a3,a4,a5] t (0,0))):W.cell? ⟨b,0,none⟩=some a0∧W.cell? ⟨b,1,none⟩=some a1∧W.cell? ⟨b,2,none⟩=some a2∧W.cell? ⟨b,3,none⟩=some a3∧W.cell? ⟨b,4,none⟩=some a4∧W.cell? ⟨b,5,none⟩=some a5:=
 ⟨cell_of_row W _ 0 _ _ _ h,cell_of_row W _ 1 _ _ _ h,cell_of_row W _ 2 _ _ _ h,cell_of_row W _ 3 _ _ _ h,cell_of_row W _ 4 _ _ _ h,cell_of_row W _ 5 _ _ _ h⟩
attribute [local go_sem] Oper.semAt_some run_makeMap
structure yW(w3:World)(bm:Nat)(S:List BA)(W:World):Prop where
 ml:∃M,cE W bm M∧(∀x,aJ M x=if dr x S then some (.bool true)else none)∧M.length≤S.length
 ge:w3.heap.size≤bm
 below:Below w3.heap.size w3 W
theorem yW.lift{w3:World}{bm:Nat}{S:List BA}{W W':World}(h:yW w3 bm S W)(hb:Below W.heap.size W W'):yW w3 bm S W':=by
 obtain⟨⟨M,h4,h5⟩,h6,h7⟩:=h;exact⟨⟨M,h4.kept (row:=none) ⟨hb.os,hb.tape,hb.output,hb.size,fun i hi _=>hb.block i hi⟩ (by simp),h5⟩,h6,aq h7 hb⟩
theorem yW.made(w3:World):yW w3 w3.heap.size [] (w3.alloc (.map #[] 0)):=
 ⟨⟨[],cK _ w3,fun _=>rfl,Nat.le_refl _⟩,Nat.le_refl _,(Below.refl _ _).alloc (Nat.le_refl _) _⟩
theorem yW.put{w3:World}{bm:Nat}{S:List BA}{W:World}(h:yW w3 bm S W)(s:BA)(hs:s.size≤100000)(hl:S.length≤1000000000):∃W1,(Instr.mapUpdate 166 (.map (some bm)) (.string s) (.bool true)).run Tryz.prog W= .ok () W1∧yW w3 bm (s::S) W1:=by
 obtain⟨⟨M,h4,h5,h6⟩,h7,h8⟩:=h;have hok:s.size≤maxLen:=Nat.le_trans hs (by unfold maxLen;omega);obtain⟨W1,hst,hml,htu⟩:=h4.store Tryz.underlying166 (by unfold maxLen;omega) (x:=s) hok (.bool true);refine⟨W1,hst,⟨_,hml,wi h5 s,by rw[dF];simp only[List.length_cons];split<;>omega⟩,h7,mI h8 h7 htu⟩
theorem yW.look{w3:World}{bm:Nat}{S:List BA}{W:World}(h:yW w3 bm S W)(s:BA)(hs:s.size≤100000):(Instr.lookup 166 (.map (some bm)) (.string s) false).run Tryz.prog W= .ok (.bool (dr s S)) W:=by
 obtain⟨⟨M,h4,h5,h6⟩,h7,h8⟩:=h;have hok:s.size≤maxLen:=Nat.le_trans hs (by unfold maxLen;omega);have hlook:=h4.look Tryz.underlying166 oR (x:=s) hok;have e1:(aJ M s).getD (.bool false)= .bool (dr s S):=by rw[h5];cases dr s S<;>rfl
 rw[e1]at hlook;exact hlook
theorem Cp(x y:Int)(w:World):Calls Tryz.prog 149 #[.agg #[.int .i64 x,.int .i64 y]] w fun e w'=>e= .returned (.bool (mg x y))∧Below w.heap.size w w':=by
 go_enter Tryz.func149,Tryz.ntmps149;go_wp2_with fail
 all_goals go_ret
 all_goals refine⟨ag ?_,(Below.refl _ _).alloc (Nat.le_refl _) _⟩
 all_goals (unfold mg;rw[Bool.eq_iff_iff];simp;omega)
theorem Cq(k:Int)(w:World):Calls Tryz.prog 151 #[.int .i64 k] w fun e w'=>e= .returned (.string (km k))∧Below w.heap.size w w':=by
 have HB:∀o:Obj,Below w.heap.size w (w.alloc o):=fun o=>(Below.refl _ _).alloc (Nat.le_refl _) o;rcases kinds k with h|rfl|rfl|rfl|rfl|rfl|rfl|h
 case inl=>
  have HW:=aa (ik k (.inl O9));have h0:k<1:=O9;go_enter Tryz.func151,Tryz.ntmps151;go_wp2_with fail;go_ret;exact⟨pY HW.out.symm,HB _⟩
 case inr.inr.inr.inr.inr.inr.inr=>
  have HW:=aa (ik k (.inr O9));have h0:¬k<1:=O9;have h5:5<k:=O9;go_enter Tryz.func151,Tryz.ntmps151;go_wp2_with fail;go_ret;exact⟨pY HW.out.symm,HB _⟩
 all_goals
  go_enter Tryz.func151,Tryz.ntmps151;go_wp2_with fail;refine bodyPost_ret (v:=.string (km _)) (by simp[results,Tryz.f151,go_sem];decide) rfl ⟨rfl,HB _⟩
theorem Fe(a:List UInt8):Go.Op.bytesLess a []=false:=by cases a<;>rfl
theorem mJ{s:ByteArray}(h:name s.data.toList=true):Go.Op.bytesLess s.toList (⟨#[]⟩:ByteArray).toList=false∧(s.toList ==(⟨#[]⟩:ByteArray).toList)=false:=by
 have e:(⟨#[]⟩:ByteArray).toList=[]:=by rw[ByteArray.toList_eq]
 rw[e];refine⟨Fe _,?_⟩;rw[beq_eq_false_iff_ne,ByteArray.toList_eq];intro e2;rw[e2]at h;cases h
theorem A8(a b:List UInt8):(!Go.Op.bytesLess b a&& !(b ==a))=Go.Op.bytesLess a b:=by
 cases h:Go.Op.bytesLess a b with
 |true=>
  obtain⟨h1,h2⟩:=gE h;rw[h1,beq_eq_false_iff_ne.2 (fun e=>h2 e.symm)];rfl
 |false=>
  by_cases e:b=a
  ·subst e;simp
  ·rw[qs h (fun e2=>e e2.symm)];rfl
def nK(l:List Tg)(k:Nat):ByteArray:=if k=0 then ⟨#[]⟩else (l.getD (k-1) ⟨⟨#[]⟩,⟨#[]⟩⟩).k
theorem yX{l:List Tg}{k:Nat}{t:Tg}(h:l[k]? =some t):nK l (k+1)=t.k:=by
 unfold nK;rw[if_neg O9,show k+1-1=k by omega,List.getD_eq_getElem?_getD,h];rfl
theorem Cr(l:List Tg)(v:Value)(w:World)(hv:qO w v l)(hs:∀t∈l,t.k.size≤maxLen∧t.v.size≤maxLen):Calls Tryz.prog 152 #[v] w fun e w'=>e= .returned (.bool (fV l))∧Below w.heap.size w w':=by
 obtain⟨R,hR⟩:∃R,fV l=R:=⟨_,rfl⟩;rw[hR];obtain⟨A,c,rfl,hA⟩:=hv;have HA:=aa hA;have HS:=aa hs;clear hA hs;by_cases h60:l.length≤60
 ·have HR:Hid (rA (nK l 0) (l.drop 0)=R):=by
   unfold fV at hR;rw[decide_eq_true h60,Bool.and_true]at hR;exact aa hR
  clear hR;go_enter Tryz.func152,Tryz.ntmps152;go_wp2_with fail;go_loopw [3] (fun i wr=>∃(k:Nat),k≤l.length∧i= .int .i64 k∧Hid (Below w.heap.size w wr)∧Hid (rA (nK l k) (l.drop k)=R)) (fun i _=>l.length-(intOf i).toNat)
  case atStart=>exact⟨0,Nat.zero_le _,rfl,Below.refl _ _,HR⟩
  case round=>
   obtain⟨k,hk,rfl,hb,hr⟩:=hrel;by_cases hlt:k<l.length
   ·obtain⟨g,o,rfl,hg,hp⟩:=HA.out.resolve_left (by rintro rfl;simp at hlt);have hkt:=List.getElem?_eq_getElem hlt;have hr2:=hr.out;rw[ub l k hlt,rA]at hr2;obtain⟨hs1,hs2⟩:=HS.out _ (List.getElem_mem hlt);generalize l[k]=t at*;have C0:∀u:dJ w,u.w.cell? ⟨g,o+k*2,none⟩=some (.string t.k):=fun u=>(u.2.cell (p:=⟨g,_,none⟩) hg).trans (hp k t hkt).1;have C1:∀u:dJ w,u.w.cell? ⟨g,o+k*2+1,none⟩=some (.string t.v):=fun u=>(u.2.cell (p:=⟨g,_,none⟩) hg).trans (hp k t hkt).2;have HN:=aa (fun u:dJ w=>oP t.k u.w hs1)
    have YN:Nonempty (dJ w):=⟨⟨_,hb.out⟩⟩;have hbd:=aq hb.out (aA wr);have k0:(0:Int)≤k:=O9;have k1:(k:Int)<l.length:=O9;have HL:=aa hlt;have HM:=aa (show l.length-(k+1)<l.length-k from by omega);have HR2:=aa hr2;have HP:=aa hp;have HLK:=aa (yX hkt);clear hr hr2 hp hlt hkt hb;cases hn:name t.k.data.toList with
    |false=>
     have HZ:=aa (show R=false from by rw[←HR2.out,hn];simp);rw[hn]at HN;clear hn;go_wp2_with fail;refine au (J:=dJ w) dJ.w ⟨_,hbd⟩ rfl K9 K9 ?_
     repeat (go_big_quiet_step (((with_reducible refine(HN.out _).mono ?_);rintro _ w8 ⟨rfl,rfl⟩;exact⟨rfl,dJ.go _ (Below.refl _ _)⟩)))
     refine wpQuiet_nil ?_;rintro w9 ⟨u,rfl⟩;have HB2:=aa (show Below w.heap.size w u.w from u.2);go_wp2_with fail;go_ret;exact⟨ag HZ.out.symm,HB2.out⟩
    |true=>
     obtain⟨nf1,nf2⟩:=mJ hn;have HR3:=HR2.out;rw[hn,Bool.true_and]at HR3;rw[hn]at HN;clear hn;by_cases hv0:t.v.size<1
     ·have HZ:=aa (show R=false from by
       have e:t.v.toList.isEmpty=true:=by
        rw[ByteArray.toList_eq,List.isEmpty_iff,←List.length_eq_zero_iff];have:t.v.data.toList.length=t.v.size:=rfl;omega
       rw[←HR3,e];simp)
      have d0:decide ((t.v.size:Int)<1)=true:=decide_eq_true O9;have d1:decide (t.v.size<1)=true:=decide_eq_true hv0;have d2:t.v.size=0:=O9;clear HR3;go_wp2_with fail;refine au (J:=dJ w) dJ.w ⟨_,hbd⟩ rfl K9 K9 ?_
      repeat (go_big_quiet_step (((with_reducible refine(HN.out _).mono ?_);rintro _ w8 ⟨rfl,rfl⟩;exact⟨rfl,dJ.go _ (Below.refl _ _)⟩)))
      refine wpQuiet_nil ?_;rintro w9 ⟨u,rfl⟩;have HB2:=aa (show Below w.heap.size w u.w from u.2);go_wp2_with fail;go_ret;exact⟨ag HZ.out.symm,HB2.out⟩
     ·have d0:decide ((t.v.size:Int)<1)=false:=decide_eq_false O9;have d2:¬t.v.size=0:=O9;have e:t.v.toList.isEmpty=false:=by
       cases e:t.v.toList.isEmpty with
       |false=>rfl
       |true=>
        exfalso;rw[ByteArray.toList_eq,List.isEmpty_iff,←List.length_eq_zero_iff]at e;have:t.v.data.toList.length=t.v.size:=rfl;omega
      rw[e]at HR3;clear e;by_cases hv2:200<t.v.size
      ·have HZ:=aa (show R=false from by rw[←HR3,decide_eq_false O9];simp);have d3:decide ((200:Int)<t.v.size)=true:=decide_eq_true O9;clear HR3;go_wp2_with fail;refine au (J:=dJ w) dJ.w ⟨_,hbd⟩ rfl K9 K9 ?_
       repeat (go_big_quiet_step (((with_reducible refine(HN.out _).mono ?_);rintro _ w8 ⟨rfl,rfl⟩;exact⟨rfl,dJ.go _ (Below.refl _ _)⟩)))
       refine wpQuiet_nil ?_;rintro w9 ⟨u,rfl⟩;have HB2:=aa (show Below w.heap.size w u.w from u.2);go_wp2_with fail;go_ret;exact⟨ag HZ.out.symm,HB2.out⟩
      ·have d3:decide ((200:Int)<t.v.size)=false:=decide_eq_false O9;rw[decide_eq_true (show t.v.size≤200 by omega)]at HR3;by_cases hk0:k=0
       ·have z0:decide (0<k)=false:=decide_eq_false O9;have HZ:Hid (rA (nK l (k+1)) (l.drop (k+1))=R):=by
         rw[HLK.out,←HR3];unfold nK;rw[if_pos hk0,nf1,nf2];exact aa rfl
        clear HR3 hk0;go_wp2_with fail;refine au (J:=dJ w) dJ.w ⟨_,hbd⟩ rfl K9 K9 ?_
        repeat (go_big_quiet_step (((with_reducible refine(HN.out _).mono ?_);rintro _ w8 ⟨rfl,rfl⟩;exact⟨rfl,dJ.go _ (Below.refl _ _)⟩)))
        refine wpQuiet_nil ?_;rintro w9 ⟨u,rfl⟩;have HB2:=aa (show Below w.heap.size w u.w from u.2);go_wp2_with fail;refine⟨⟨k+1,HL.out,by go_num,HB2,HZ⟩,?_⟩;have:=HM.out;simp[intOf];omega
       ·have z0:decide (0<k)=true:=decide_eq_true O9;(have hlj:k-1<l.length:=by have:=HL.out;omega);have hkj:=List.getElem?_eq_getElem hlj;have hlk:nK l k=(l[k-1]).k:=by
         unfold nK;rw[if_neg hk0,List.getD_eq_getElem?_getD,hkj];rfl
        rw[hlk]at HR3;generalize l[k-1]=s at*;have D0:∀u:dJ w,u.w.cell? ⟨g,o+(k-1)*2,none⟩=some (.string s.k):=fun u=>(u.2.cell (p:=⟨g,_,none⟩) hg).trans (HP.out (k-1) s hkj).1;have s0:IntKind.i64.wrap ((k:Int)-1)=(k:Int)-1:=IntWalk.i64_in _ O9;have s1:((k:Int)-1).toNat=k-1:=O9;have s2:(0:Int)≤(k:Int)-1:=O9;have s3:(k:Int)-1<l.length:=O9;have hor:=A8 s.k.toList t.k.toList;cases hls:Go.Op.bytesLess s.k.toList t.k.toList with
        |true=>
         rw[hls]at hor;have HZ:Hid (rA (nK l (k+1)) (l.drop (k+1))=R):=by
          rw[HLK.out,←HR3,hor];exact aa rfl
         clear HR3 hk0 hkj hlj hlk hor;go_wp2_with fail;refine au (J:=dJ w) dJ.w ⟨_,hbd⟩ rfl K9 K9 ?_
         repeat (go_big_quiet_step (((with_reducible refine(HN.out _).mono ?_);rintro _ w8 ⟨rfl,rfl⟩;exact⟨rfl,dJ.go _ (Below.refl _ _)⟩)))
         refine wpQuiet_nil ?_;rintro w9 ⟨u,rfl⟩;have HB2:=aa (show Below w.heap.size w u.w from u.2);go_wp2_with fail;refine⟨⟨k+1,HL.out,by go_num,HB2,HZ⟩,?_⟩;have:=HM.out;simp[intOf];omega
        |false=>
         rw[hls]at hor;have HZ:=aa (show R=false from by rw[←HR3,hor];rfl);clear HR3 hk0 hkj hlj hlk hor;go_wp2_with fail;refine au (J:=dJ w) dJ.w ⟨_,hbd⟩ rfl K9 K9 ?_
         repeat (go_big_quiet_step (((with_reducible refine(HN.out _).mono ?_);rintro _ w8 ⟨rfl,rfl⟩;exact⟨rfl,dJ.go _ (Below.refl _ _)⟩)))
         refine wpQuiet_nil ?_;rintro w9 ⟨u,rfl⟩;have HB2:=aa (show Below w.heap.size w u.w from u.2);go_wp2_with fail;go_ret;exact⟨ag HZ.out.symm,HB2.out⟩
   ·(have hz:R=true:=by rw[←hr.out,List.drop_eq_nil_of_le O9];rfl);have HZ:=aa hz;have HB:=aa hb.out;clear hz hr hb;go_wp2_with fail;go_ret;exact⟨ag HZ.out.symm,HB.out⟩
 ·have HZ:=aa (show R=false from by rw[←hR];unfold fV;rw[decide_eq_false h60,Bool.and_false]);have h61:(60:Int)<l.length:=O9;clear hR;go_enter Tryz.func152,Tryz.ntmps152;go_wp2_with fail;go_ret;exact⟨ag HZ.out.symm,Below.refl _ _⟩
def Cs(k:Int)(n:Nat):Bool:=if k=1 then decide (n=0)else if k=2 then decide (2≤n)else if k=3 then decide (3≤n)else if k=4 then decide (1≤n)else decide (n=3)
def mK(o:Ob):Bool:=decide (o.refs.length≤2000)&&(dX o.kind [] ⟨#[]⟩ o.refs&&Cs o.kind o.refs.length)
def iR(l:List BA)(k:Nat):BA:=if k=0 then ⟨#[]⟩else l.getD (k-1) ⟨#[]⟩
theorem qR{l:List BA}{k:Nat}{s:BA}(h:l[k]? =some s):iR l (k+1)=s:=by
 unfold iR;rw[if_neg O9,show k+1-1=k by omega,List.getD_eq_getElem?_getD,h];rfl
theorem wM{l:List BA}{k:Nat}(h0:¬k=0)(h:k≤l.length):l[k-1]? =some (iR l k):=by
 have hlt:k-1<l.length:=O9;unfold iR;rw[if_neg h0,List.getD_eq_getElem?_getD,List.getElem?_eq_getElem hlt];rfl
theorem wO(a b:List UInt8):(a ==b)=(b ==a):=by
 rw[Bool.eq_iff_iff,beq_iff_eq,beq_iff_eq];exact eq_comm
theorem Ff(K:Int)(S:List BA)(refs:List BA)(k:Nat)(s:BA):jV K S (iR refs k) s=(!name s.data.toList||((K ==2)&&(decide (0<k)&&((iR refs k).toList ==s.toList))||(K ==3)&&dr s S)):=by
 unfold jV;rw[wO s.toList];cases hn:name s.data.toList with
 |false=>simp
 |true=>
  by_cases hk:k=0
  ·subst hk;obtain⟨_,h2⟩:=mJ hn;(have:((iR refs 0).toList ==s.toList)=false:=by rw[wO];exact h2);rw[this];simp
  ·rw[decide_eq_true (show 0<k by omega)];simp
def uh(w3:World)(bm:Nat)(S:List BA):Type:= {W:World//yW w3 bm S W}
def uh.w{w3:World}{bm:Nat}{S:List BA}(u:uh w3 bm S):World:=u.1
theorem uh.go{w3:World}{bm:Nat}{S:List BA}(u:uh w3 bm S){w8:World}(hb:Below u.w.heap.size u.w w8):∃u':uh w3 bm S,w8=u'.w:=⟨⟨w8,u.2.lift hb⟩,rfl⟩
theorem fg{b:Bool}:∃c:Bool,b=c:=⟨_,rfl⟩
theorem Ct(o:Ob)(rv tv:Value)(w:World)(hr:ff w rv o.refs)(ht:qO w tv o.tags)(hs:∀s∈o.refs,s.size≤100000):Calls Tryz.prog 153 #[.agg (eN o rv tv)] w fun e w'=>e= .returned (.bool (mK o))∧Below w.heap.size w w':=by
 obtain⟨R,hR⟩:∃R,mK o=R:=⟨_,rfl⟩;rw[hR];obtain⟨A,c,rfl,_,hA⟩:=hr;obtain⟨At,ct,rfl,_⟩:=ht;have HA:=aa hA;have HS:=aa hs;clear hA hs;unfold eN;by_cases h2k:2000<o.refs.length
 ·have HZ:=aa (show R=false from by rw[←hR];unfold mK;rw[decide_eq_false O9];rfl);have h61:(2000:Int)<o.refs.length:=O9;clear hR;go_enter Tryz.func153,Tryz.ntmps153;go_wp2_with fail;go_ret;exact⟨ag HZ.out.symm,(Below.refl _ _).alloc (Nat.le_refl _) _⟩
 ·have HR:Hid ((dX o.kind [] (iR o.refs 0) (o.refs.drop 0)&&Cs o.kind o.refs.length)=R):=by
   unfold mK at hR;rw[decide_eq_true (show o.refs.length≤2000 by omega),Bool.true_and]at hR;exact aa hR
  have h61:¬(2000:Int)<o.refs.length:=O9;obtain⟨wo,hwo⟩:∃wo,w.alloc (.cells #[.string o.id,.int .i64 o.kind,.int .i64 o.x,.int .i64 o.y,.slice A o.refs.length c,.slice At o.tags.length ct] 47)=wo:=⟨_,rfl⟩;have HBO:Hid (Below w.heap.size w wo):=by rw[←hwo];exact(Below.refl _ _).alloc (Nat.le_refl _) _
  have hbl:wo.heap[w.heap.size]? =some (.cells #[.string o.id,.int .i64 o.kind,.int .i64 o.x,.int .i64 o.y,.slice A o.refs.length c,.slice At o.tags.length ct] 47 (0,0)):=by rw[←hwo];exact heap_alloc_new _ _
  have HBL:=aa hbl;obtain⟨d0,d1,d2,d3,d4,d5⟩:=eE hbl;obtain⟨wm,hwm⟩:∃wm,wo.alloc (.map #[] 0)=wm:=⟨_,rfl⟩;have hus:=yW.made wo;rw[hwm]at hus;have HUS:=aa hus;have HSZ:Hid (wo.heap.size=w.heap.size+1):=by rw[←hwo];exact aa (by simp)
  clear hR hus hbl;go_enter Tryz.func153,Tryz.ntmps153;go_wp2_with fail;clear hwo hwm d0 d1 d2 d3 d4 d5;generalize wo.heap.size=bm at*;go_loopw [5] (fun i wr=>∃(k:Nat)(S:List BA),k≤o.refs.length∧i= .int .i64 k∧Hid (S.length=k)∧Hid (yW wo bm S wr)∧Hid ((dX o.kind S (iR o.refs k) (o.refs.drop k)&&Cs o.kind o.refs.length)=R)) (fun i _=>o.refs.length-(intOf i).toNat)
  case atStart=>exact⟨0,[],Nat.zero_le _,rfl,rfl,HUS,HR⟩
  case round=>
   obtain⟨k,S,hk,rfl,hsl,hus,hr⟩:=hrel;by_cases hlt:k<o.refs.length
   ·obtain⟨g,off,rfl,hg,hp⟩:=HA.out.resolve_left (by intro e;rw[e]at hlt;simp at hlt);have hx:=List.getElem?_eq_getElem hlt;have hsz:=HS.out _ (List.getElem_mem hlt);have hr2:=hr.out;rw[List.drop_eq_getElem_cons hlt,dX,Ff]at hr2;generalize o.refs[k]=s at*;have C0:∀u:uh wo bm S,u.w.cell? ⟨g,off+k,none⟩=some (.string s):=fun u=>((aq HBO.out u.2.below).cell (p:=⟨g,_,none⟩) hg).trans (hp k s hx)
    have D1:∀u:uh wo bm S,u.w.cell? ⟨w.heap.size,1,none⟩=some (.int .i64 o.kind):=fun u=>(eE (ai u.2.below HBL.out)).2.1;have D4:∀u:uh wo bm S,u.w.cell? ⟨w.heap.size,4,none⟩=some (.slice (some ⟨g,off,none⟩) o.refs.length c):=fun u=>(eE (ai u.2.below HBL.out)).2.2.2.2.1;have P0:0<k→∀u:uh wo bm S,u.w.cell? ⟨g,off+(k-1),none⟩=some (.string (iR o.refs k)):=fun h u=>((aq HBO.out u.2.below).cell (p:=⟨g,_,none⟩) hg).trans (hp (k-1) _ (wM O9 hk))
    have HN:=aa (fun u:uh wo bm S=>oP s u.w (Nat.le_trans hsz (by unfold maxLen;omega)));have LK:∀u:uh wo bm S,(Instr.lookup 166 (.map (some bm)) (.string s) false).run Tryz.prog u.w= .ok (.bool (dr s S)) u.w:=fun u=>yW.look u.2 s hsz;have YN:Nonempty (uh wo bm S):=⟨⟨_,hus.out⟩⟩;have hbd:=hus.out.lift (aA wr);have k0:(0:Int)≤k:=O9;have k1:(k:Int)<o.refs.length:=O9;have HL:=aa hlt;have HM:=aa (show o.refs.length-(k+1)<o.refs.length-k from by omega)
    have s0:IntKind.i64.wrap ((k:Int)-1)=(k:Int)-1:=IntWalk.i64_in _ O9;have s1:((k:Int)-1).toNat=k-1:=O9;have s3:(k:Int)-1<o.refs.length:=O9;have HNX:=aa (qR hx);obtain⟨nb,hnb⟩:=fg (b:=name s.data.toList);obtain⟨k2,hk2⟩:=fg (b:=(o.kind ==2));obtain⟨k3,hk3⟩:=fg (b:=(o.kind ==3));obtain⟨kp,hkp⟩:=fg (b:=decide (0<k));obtain⟨pe,hpe⟩:=fg (b:=((iR o.refs k).toList ==s.toList));obtain⟨sn,hsn⟩:=fg (b:=dr s S);rw[hnb,hk2,hk3,hkp,hpe,hsn]at hr2;rw[hnb]at HN;rw[hsn]at LK;have HR2:=aa hr2;have HSL:=aa hsl.out
    have HSZ2:=aa hsz;have hcs:(nb=false∨(nb=true∧k2=true∧kp=true∧pe=true)∨(nb=true∧k2=false∧k3=true∧sn=true))∨((nb=true∧k2=true∧kp=false∧k3=false)∨(nb=true∧k2=true∧kp=true∧pe=false∧k3=false)∨(nb=true∧k2=false∧k3=true∧sn=false)∨(nb=true∧k2=false∧k3=false)):=by
     have hx23:k2=true→k3=false:=by
      intro h;rw[←hk3];rw[h,beq_iff_eq]at hk2;rw[hk2];rfl
     cases nb<;>cases k2<;>cases k3<;>cases kp<;>cases pe<;>cases sn<;>simp_all
    have s2:kp=true→(0:Int)≤(k:Int)-1:=by
     intro h;rw[h,decide_eq_true_eq]at hkp;omega
    have P1:kp=true→∀u:uh wo bm S,u.w.cell? ⟨g,off+(k-1),none⟩=some (.string (iR o.refs k)):=fun h=>by
     rw[h,decide_eq_true_eq]at hkp;exact P0 hkp
    generalize iR o.refs k=pr at*;(have pe2:pe=false→¬pr.toList=s.toList:=fun h=>by rw[h]at hpe;exact fun e=>by rw[e]at hpe;simp at hpe);(have pe3:pe=true→pr.toList=s.toList:=fun h=>by rw[h]at hpe;simpa using hpe);clear P0 hr hr2 hsl hus hp hlt hx hsz hnb hsn;rcases hcs with hcs|hcs
    ·have HZ:Hid (R=false):=by
      rw[←HR2.out];rcases hcs with rfl|⟨rfl,rfl,rfl,rfl⟩|⟨rfl,rfl,rfl,rfl⟩<;>exact aa (by simp)
     rcases hcs with rfl|⟨rfl,rfl,rfl,rfl⟩|⟨rfl,rfl,rfl,rfl⟩
     all_goals as_aux_lemma=>
      try replace s2:=s2 rfl
      try replace P1:=P1 rfl
      try replace pe3:=pe3 rfl
      go_wp2_with fail;refine au (J:=uh wo bm S) uh.w ⟨_,hbd⟩ rfl K9 K9 ?_
      repeat (go_big_quiet_step (((with_reducible refine(HN.out _).mono ?_);rintro _ w8 ⟨rfl,rfl⟩;exact⟨rfl,uh.go _ (Below.refl _ _)⟩)))
      refine wpQuiet_nil ?_;rintro w9 ⟨u,rfl⟩;have HB2:=aa (aq HBO.out u.2.below);go_wp2_with fail;go_ret;exact⟨ag HZ.out.symm,HB2.out⟩
    ·have HZ:Hid ((dX o.kind (s::S) (iR o.refs (k+1)) (o.refs.drop (k+1))&&Cs o.kind o.refs.length)=R):=by
      rw[HNX.out,←HR2.out];rcases hcs with⟨rfl,rfl,rfl,rfl⟩|⟨rfl,rfl,rfl,rfl,rfl⟩|⟨rfl,rfl,rfl,rfl⟩|⟨rfl,rfl,rfl⟩<;>exact aa (by simp)
     rcases hcs with⟨rfl,rfl,rfl,rfl⟩|⟨rfl,rfl,rfl,rfl,rfl⟩|⟨rfl,rfl,rfl,rfl⟩|⟨rfl,rfl,rfl⟩
     all_goals as_aux_lemma=>
      try replace s2:=s2 rfl
      try replace P1:=P1 rfl
      try replace pe2:=pe2 rfl
      go_wp2_with fail;refine au (J:=uh wo bm S) uh.w ⟨_,hbd⟩ rfl K9 K9 ?_
      repeat (go_big_quiet_step (((with_reducible refine(HN.out _).mono ?_);rintro _ w8 ⟨rfl,rfl⟩;exact⟨rfl,uh.go _ (Below.refl _ _)⟩)))
      refine wpQuiet_nil ?_;rintro w9 ⟨u,rfl⟩;obtain⟨W1,hst,hus1⟩:=yW.put u.2 s HSZ2.out (by have:=HSL.out;omega);have hst':(Instr.mapUpdate 166 (.map (some bm)) (.string s) (.bool true)).run Tryz.prog u.w= .ok () W1:=hst;have HU1:=aa hus1;clear hst hus1;go_wp2_with fail;refine⟨⟨k+1,s::S,HL.out,by go_num,aa (by have:=HSL.out;simp[this]),HU1,HZ⟩,?_⟩;have:=HM.out;simp[intOf];omega
   ·(obtain rfl:k=o.refs.length:=by omega);have hz:=hr.out;rw[List.drop_length,dX,Bool.true_and]at hz;have HB2:=aa (aq HBO.out hus.out.below);have d1:=(eE (ai hus.out.below HBL.out)).2.1;have HZ:=aa hz;clear hz hr hus hlt hsl;generalize o.refs.length=n at*;have hks:o.kind=1∨o.kind=2∨o.kind=3∨o.kind=4∨(o.kind≠1∧o.kind≠2∧o.kind≠3∧o.kind≠4):=O9;rcases hks with h|h|h|h|⟨h1,h2,h3,h4⟩
    ·(have HY:Hid (decide (n=0)=R):=by have:=HZ.out;rw[h]at this;exact aa this);rw[h]at d1;go_wp2_with fail;go_ret;exact⟨ag (by rw[←HY.out,Bool.eq_iff_iff];simp),HB2.out⟩
    ·(have HY:Hid (decide (2≤n)=R):=by have:=HZ.out;rw[h]at this;exact aa this);rw[h]at d1;go_wp2_with fail;go_ret;exact⟨ag (by rw[←HY.out,Bool.eq_iff_iff];simp;try omega),HB2.out⟩
    ·(have HY:Hid (decide (3≤n)=R):=by have:=HZ.out;rw[h]at this;exact aa this);rw[h]at d1;go_wp2_with fail;go_ret;exact⟨ag (by rw[←HY.out,Bool.eq_iff_iff];simp;try omega),HB2.out⟩
    ·(have HY:Hid (decide (1≤n)=R):=by have:=HZ.out;rw[h]at this;exact aa this);rw[h]at d1;go_wp2_with fail;go_ret;exact⟨ag (by rw[←HY.out,Bool.eq_iff_iff];simp;try omega),HB2.out⟩
    ·have HY:Hid (decide (n=3)=R):=by
      have:=HZ.out;unfold Cs at this;rw[if_neg h1,if_neg h2,if_neg h3,if_neg h4]at this;exact aa this
     have q1:(o.kind ==1)=false:=beq_eq_false_iff_ne.2 h1;have q2:(o.kind ==2)=false:=beq_eq_false_iff_ne.2 h2;have q3:(o.kind ==3)=false:=beq_eq_false_iff_ne.2 h3;have q4:(o.kind ==4)=false:=beq_eq_false_iff_ne.2 h4;go_wp2_with fail;go_ret;exact⟨ag (by rw[←HY.out,Bool.eq_iff_iff];simp;try omega),HB2.out⟩
end Go.Proofs.YtfkgjbdeicggaaaGreat
namespace Go.Proofs.YtfkgjbdeicggaaaGreat
open Go.RowKit Go.Proofs.Px Go.Proofs.Pn Go.Proofs.Pm
def Jd(o:Ob):Bool:=if o.kind=1 then mg o.x o.y else decide (o.x=0∧o.y=0)
def Ba(k:Int):Bool:=decide (1≤k∧k≤5)
theorem Bb(o:Ob):lJ o=(name o.id.data.toList&&(Ba o.kind&&(Jd o&&(fV o.tags&&mK o)))):=by
 unfold lJ kO mh mK Jd Ba Cs;by_cases hk:1≤o.kind∧o.kind≤5
 ·rw[decide_eq_true hk];have h:o.kind=1∨o.kind=2∨o.kind=3∨o.kind=4∨o.kind=5:=O9;rcases h with h|h|h|h|h
  ·simp only[h,eH];simp;cases name o.id.data.toList<;>cases fV o.tags<;>cases dX 1 [] ⟨#[]⟩ o.refs<;>cases mg o.x o.y<;>simp
  ·simp only[h,eH];simp;cases name o.id.data.toList<;>cases fV o.tags<;>cases dX 2 [] ⟨#[]⟩ o.refs<;>cases decide (2≤o.refs.length)<;>cases decide (o.refs.length≤2000)<;>cases decide (o.x=0)<;>simp
  ·simp only[h,eH];simp;cases name o.id.data.toList<;>cases fV o.tags<;>cases dX 3 [] ⟨#[]⟩ o.refs<;>cases decide (3≤o.refs.length)<;>cases decide (o.refs.length≤2000)<;>cases decide (o.x=0)<;>simp
  ·simp only[h,eH];simp;cases name o.id.data.toList<;>cases fV o.tags<;>cases dX 4 [] ⟨#[]⟩ o.refs<;>cases decide (1≤o.refs.length)<;>cases decide (o.refs.length≤2000)<;>cases decide (o.x=0)<;>simp
  ·simp only[h,eH];simp;by_cases h3:o.refs.length=3
   ·simp[h3];cases name o.id.data.toList<;>cases fV o.tags<;>cases dX 5 [] ⟨#[]⟩ o.refs<;>cases decide (o.x=0)<;>simp
   ·simp[h3]
 ·rw[decide_eq_false hk];simp
theorem ui(o:Ob)(rv tv:Value)(w:World)(hr:ff w rv o.refs)(ht:qO w tv o.tags)(ho:BW o):Calls Tryz.prog 105 #[.agg (eN o rv tv)] w fun e w'=>e= .returned (.bool (lJ o))∧Below w.heap.size w w':=by
 rw[Bb];have HRF:=aa (fun W (h:Below w.heap.size w W)=>Ct o rv tv W (hr.below h) (ht.below h) ho.2.2.1);have HTG:=aa (fun W (h:Below w.heap.size w W)=>Cr o.tags tv W (ht.below h) ho.2.2.2.2);have HNA:=aa (fun W=>oP o.id W (Nat.le_trans ho.1 (by unfold maxLen;omega)));obtain⟨A,c,rfl,_⟩:=hr;obtain⟨At,ct,rfl,_⟩:=ht;unfold eN at*;obtain⟨nb,hnb⟩:=fg (b:=name o.id.data.toList);obtain⟨kb,hkb⟩:=fg (b:=Ba o.kind);obtain⟨ab,hab⟩:=fg (b:=Jd o);obtain⟨tb,htb⟩:=fg (b:=fV o.tags);obtain⟨rb,hrb⟩:=fg (b:=mK o)
 rw[hnb]at HNA;rw[htb]at HTG;rw[hrb]at HRF;rw[hnb,hkb,hab,htb,hrb];have HWD:Hid (∀W,Calls Tryz.prog 151 #[.int .i64 o.kind] W fun e w'=>e= .returned (.string (km o.kind))∧Below W.heap.size W w'):=aa (fun W=>Cq o.kind W);have hwe:(km o.kind).toList.isEmpty= !kb:=by
  rw[←hkb];unfold Ba;by_cases hk:1≤o.kind∧o.kind≤5
  ·rw[decide_eq_true hk,jI _ hk.1 hk.2];rfl
  ·rw[decide_eq_false hk,ik _ O9];rw[ByteArray.toList_eq];rfl
 have hwp:kb=true→¬(km o.kind).toList=[]:=fun h e=>by rw[e,h]at hwe;cases hwe
 have hwq:kb=false→(km o.kind).toList=[]:=fun h=>by rw[h]at hwe;simpa using hwe
 generalize km o.kind=wd at*;obtain⟨wo,hwo⟩:∃wo,w.alloc (.cells #[.string o.id,.int .i64 o.kind,.int .i64 o.x,.int .i64 o.y,.slice A o.refs.length c,.slice At o.tags.length ct] 47)=wo:=⟨_,rfl⟩;have hbo:Below w.heap.size w wo:=by rw[←hwo];exact(Below.refl _ _).alloc (Nat.le_refl _) _
 have hbl:wo.heap[w.heap.size]? =some (.cells #[.string o.id,.int .i64 o.kind,.int .i64 o.x,.int .i64 o.y,.slice A o.refs.length c,.slice At o.tags.length ct] 47 (0,0)):=by rw[←hwo];exact heap_alloc_new _ _
 obtain⟨d0,d1,d2,d3,d4,d5⟩:=eE hbl;have d3':wo.cell? ⟨w.heap.size,2+1,none⟩=some (.int .i64 o.y):=d3;have HON:=aa (Cp o.x o.y wo);have HBO:=aa hbo;have HBL:=aa hbl;clear hnb hkb htb hrb hbo hbl
 have fin:∀(W:World),Below wo.heap.size wo W→W.cell? ⟨w.heap.size,0,none⟩=some (.string o.id)∧W.cell? ⟨w.heap.size,1,none⟩=some (.int .i64 o.kind)∧W.cell? ⟨w.heap.size,2,none⟩=some (.int .i64 o.x)∧W.cell? ⟨w.heap.size,3,none⟩=some (.int .i64 o.y)∧W.cell? ⟨w.heap.size,4,none⟩=some (.slice A o.refs.length c)∧W.cell? ⟨w.heap.size,5,none⟩=some (.slice At o.tags.length ct):=fun W h=>eE (ai h HBL.out);have FIN:=aa fin;clear fin;go_enter Tryz.func105,Tryz.ntmps105;by_cases h1:o.kind=1
 ·have hon:mg o.x o.y=ab:=by rw[←hab];unfold Jd;rw[if_pos h1]
  rw[hon]at HON;have q1:(o.kind != 1)=false:=by simp[h1]
  clear hab hon h1;go_wp2_with fail;refine HON.out.mono ?_;rintro _ w2 ⟨rfl,b2⟩;have HB2:=aa b2;obtain⟨e0,e1,e2,e3,e4,e5⟩:=FIN.out w2 b2;clear hwo d0 d1 d2 d3 d4 d5 d3' b2;go_wp2_with fail;refine(HNA.out _).mono ?_;rintro _ w3 ⟨rfl,rfl⟩;cases nb with
  |false=>
   go_wp2_with fail;go_ret;exact⟨ag (by simp),aq HBO.out HB2.out⟩
  |true=>
   go_wp2_with fail;refine(HWD.out _).mono ?_;rintro _ w4 ⟨rfl,b4⟩;have HB4:=aa (aq HB2.out b4);clear e0 e1 e2 e3 e4 e5 b4;obtain⟨e0,e1,e2,e3,e4,e5⟩:=FIN.out w4 HB4.out;cases kb with
   |false=>
    replace hwq:=hwq rfl;go_wp2_with fail;go_ret;exact⟨ag (by simp),aq HBO.out HB4.out⟩
   |true=>
    replace hwp:=hwp rfl;cases ab with
    |false=>
     go_wp2_with fail;go_ret;exact⟨ag (by simp),aq HBO.out HB4.out⟩
    |true=>
     have HX:=aa (HTG.out w4 (aq HBO.out HB4.out));go_wp2_with fail;refine HX.out.mono ?_;rintro _ w5 ⟨rfl,b5⟩;have HB5:=aa (aq HB4.out b5);clear e0 e1 e2 e3 e4 e5 b5;obtain⟨e0,e1,e2,e3,e4,e5⟩:=FIN.out w5 HB5.out;cases tb with
     |false=>
      go_wp2_with fail;go_ret;exact⟨ag (by simp),aq HBO.out HB5.out⟩
     |true=>
      have HY:=aa (HRF.out w5 (aq HBO.out HB5.out));go_wp2_with fail;refine HY.out.mono ?_;rintro _ w6 ⟨rfl,b6⟩;have HB6:=aa (aq HB5.out b6);clear e0 e1 e2 e3 e4 e5 b6;go_wp2_with fail;go_ret;exact⟨ag (by simp),aq HBO.out HB6.out⟩
 ·have hon:dO o.x o.y 0 0=ab:=by
   rw[←hab];unfold Jd dO;rw[if_neg h1,Bool.eq_iff_iff];simp
  have q1:(o.kind != 1)=true:=by simp[h1]
  clear hab h1;go_wp2_with fail;refine HON.out.mono ?_;rintro _ w2 ⟨rfl,b2⟩;have HB2:=aa b2;obtain⟨e0,e1,e2,e3,e4,e5⟩:=FIN.out w2 b2;have e3':w2.cell? ⟨w.heap.size,2+1,none⟩=some (.int .i64 o.y):=e3;clear hwo d0 d1 d2 d3 d4 d5 d3' b2;go_wp2_with fail;clear e3';refine(HNA.out _).mono ?_;rintro _ w3 ⟨rfl,rfl⟩;cases nb with
  |false=>
   go_wp2_with fail;go_ret;exact⟨ag (by simp),aq HBO.out HB2.out⟩
  |true=>
   go_wp2_with fail;refine(HWD.out _).mono ?_;rintro _ w4 ⟨rfl,b4⟩;have HB4:=aa (aq HB2.out b4);clear e0 e1 e2 e3 e4 e5 b4;obtain⟨e0,e1,e2,e3,e4,e5⟩:=FIN.out w4 HB4.out;cases kb with
   |false=>
    replace hwq:=hwq rfl;go_wp2_with fail;go_ret;exact⟨ag (by simp),aq HBO.out HB4.out⟩
   |true=>
    replace hwp:=hwp rfl;cases ab with
    |false=>
     go_wp2_with fail;go_ret;exact⟨ag (by simp),aq HBO.out HB4.out⟩
    |true=>
     have HX:=aa (HTG.out w4 (aq HBO.out HB4.out));go_wp2_with fail;refine HX.out.mono ?_;rintro _ w5 ⟨rfl,b5⟩;have HB5:=aa (aq HB4.out b5);clear e0 e1 e2 e3 e4 e5 b5;obtain⟨e0,e1,e2,e3,e4,e5⟩:=FIN.out w5 HB5.out;cases tb with
     |false=>
      go_wp2_with fail;go_ret;exact⟨ag (by simp),aq HBO.out HB5.out⟩
     |true=>
      have HY:=aa (HRF.out w5 (aq HBO.out HB5.out));go_wp2_with fail;refine HY.out.mono ?_;rintro _ w6 ⟨rfl,b6⟩;have HB6:=aa (aq HB5.out b6);clear e0 e1 e2 e3 e4 e5 b6;go_wp2_with fail;go_ret;exact⟨ag (by simp),aq HBO.out HB6.out⟩
def jJ(l:List Ob)(k:Nat):BA:=iR (l.map Ob.id) k
theorem yY{l:List Ob}{k:Nat}{t:Ob}(h:l[k]? =some t):jJ l (k+1)=t.id:=qR (by rw[List.getElem?_map,h];rfl)
theorem Fg{o:Ob}(h:lJ o=true):name o.id.data.toList=true:=by
 rw[Bb]at h;simp only[Bool.and_eq_true]at h;exact h.1
theorem Cu(l:List Ob)(k:Nat)(t:Ob)(r:List Ob):mC (jJ l k) (t::r)=(lJ t&&((decide (k=0)||Go.Op.bytesLess (jJ l k).toList t.id.toList)&&mC t.id r)):=by
 rw[mC];cases ho:lJ t with
 |false=>rfl
 |true=>
  obtain⟨n1,n2⟩:=mJ (Fg ho);by_cases hk:k=0
  ·subst hk;have e:jJ l 0=⟨#[]⟩:=rfl;rw[e,n1,n2];simp
  ·rw[decide_eq_false hk,Bool.false_or,Bool.true_and,Bool.true_and,A8]
theorem uj(l:List Ob)(v:Value)(w:World)(hv:fm w v l):Calls Tryz.prog 46 #[.agg #[v]] w fun e w'=>e= .returned (.bool (aZ l))∧Below w.heap.size w w':=by
 obtain⟨R,hR⟩:∃R,aZ l=R:=⟨_,rfl⟩;rw[hR];have hlen:=hv.len;have HR:Hid (mC (jJ l 0) (l.drop 0)=R):=by
  unfold aZ at hR;rw[decide_eq_true (show l.length≤1000000 by omega),Bool.and_true]at hR;exact aa hR
 have HOK:=aa hv.ok;obtain⟨A,c,rfl,_,hA⟩:=id hv.obs;have HA:=aa hA;obtain⟨wo,hwo⟩:∃wo,w.alloc (.cells #[.slice A l.length c] 24)=wo:=⟨_,rfl⟩;have HBO:Hid (Below w.heap.size w wo):=by rw[←hwo];exact(Below.refl _ _).alloc (Nat.le_refl _) _
 have hbl:wo.heap[w.heap.size]? =some (.cells #[.slice A l.length c] 24 (0,0)):=by rw[←hwo];exact heap_alloc_new _ _
 have HBL:=aa hbl;have dm:=(cD hbl).1;clear hA hv hR hbl;go_enter Tryz.func46,Tryz.ntmps46;go_wp2_with fail;clear hwo dm;go_loopw [3] (fun i wr=>∃(k:Nat),k≤l.length∧i= .int .i64 k∧Hid (Below wo.heap.size wo wr)∧Hid (mC (jJ l k) (l.drop k)=R)) (fun i _=>l.length-(intOf i).toNat)
 case atStart=>exact⟨0,Nat.zero_le _,rfl,Below.refl _ _,HR⟩
 case round=>
  obtain⟨k,hk,rfl,hb,hr⟩:=hrel;have e0:=(cD (ai hb.out HBL.out)).1;by_cases hlt:k<l.length
  ·obtain⟨g,o,rfl,hg,hp⟩:=HA.out.resolve_left (by intro e;rw[e]at hlt;simp at hlt);have hkt:=List.getElem?_eq_getElem hlt;obtain⟨rv,tv,hoa⟩:=hp k _ hkt;have hok:=HOK.out _ (List.getElem_mem hlt);have hr2:=hr.out;rw[ue l k hlt,Cu]at hr2;generalize l[k]=t at*;have HV:=aa (fun u:dJ wo=>ui t rv tv u.w (hoa.refs.below (aq HBO.out u.2)) (hoa.tags.below (aq HBO.out u.2)) hok);obtain⟨Ar,cr,hrv,_⟩:=id hoa.refs;obtain⟨At,ct,htv,_⟩:=id hoa.tags;subst hrv;subst htv;have HOA:=aa hoa
   have bq:∀u:dJ wo,Cj u.w g (o+k*6) t (.slice Ar t.refs.length cr) (.slice At t.tags.length ct):=fun u=>HOA.out.below hg (aq HBO.out u.2);have X0:=fun u:dJ wo=>(bq u).c0;have X1:=fun u:dJ wo=>(bq u).c1;have X2:=fun u:dJ wo=>(bq u).c2;have X3:=fun u:dJ wo=>(bq u).c3;have X4:=fun u:dJ wo=>(bq u).c4;have X5:=fun u:dJ wo=>(bq u).c5;have E0:∀u:dJ wo,u.w.cell? ⟨w.heap.size,0,none⟩=some (.slice (some ⟨g,o,none⟩) l.length c):=fun u=>(cD (ai u.2 HBL.out)).1
   have P0:¬k=0→∀u:dJ wo,u.w.cell? ⟨g,o+(k-1)*6,none⟩=some (.string (jJ l k)):=fun h u=>by
    have h2:=wM (l:=l.map Ob.id) h (by rw[List.length_map];exact hk);rw[List.getElem?_map,Option.map_eq_some_iff]at h2;obtain⟨p,hp1,hp2⟩:=h2;obtain⟨_,_,ha⟩:=hp (k-1) p hp1;unfold jJ;rw[←hp2];exact(ha.below hg (aq HBO.out u.2)).c0
   unfold eN at HV;have YN:Nonempty (dJ wo):=⟨⟨_,hb.out⟩⟩;have hbd:=aq hb.out (aA wr);have k0:(0:Int)≤k:=O9;have k1:(k:Int)<l.length:=O9;have HL:=aa hlt;have HM:=aa (show l.length-(k+1)<l.length-k from by omega);have s0:IntKind.i64.wrap ((k:Int)-1)=(k:Int)-1:=IntWalk.i64_in _ O9;have s1:((k:Int)-1).toNat=k-1:=O9;have s3:(k:Int)-1<l.length:=O9;have HNX:=aa (yY hkt);obtain⟨ob,hob⟩:=fg (b:=lJ t);obtain⟨ls,hls⟩:=fg (b:=Go.Op.bytesLess (jJ l k).toList t.id.toList);rw[hob,hls]at hr2;rw[hob]at HV
   have HR2:=aa hr2;clear hr hr2 hp hlt hkt hoa hok bq hob;cases ob with
   |false=>
    have HZ:=aa (show R=false from by rw[←HR2.out];rfl);clear hls P0;go_wp2_with fail;refine au (J:=dJ wo) dJ.w ⟨_,hbd⟩ rfl K9 K9 ?_
    repeat (go_big_quiet_step (((with_reducible refine(HV.out _).mono ?_);rintro _ w8 ⟨rfl,b8⟩;exact⟨rfl,dJ.go _ b8⟩)))
    refine wpQuiet_nil ?_;rintro w9 ⟨u,rfl⟩;have HB2:=aa (aq HBO.out u.2);go_wp2_with fail;go_ret;exact⟨ag HZ.out.symm,HB2.out⟩
   |true=>
    by_cases hk0:k=0
    ·have z0:decide (0<k)=false:=decide_eq_false O9;have HZ:Hid (mC (jJ l (k+1)) (l.drop (k+1))=R):=by
      rw[HNX.out,←HR2.out,decide_eq_true hk0];exact aa (by simp)
     clear P0 hls hk0;go_wp2_with fail;refine au (J:=dJ wo) dJ.w ⟨_,hbd⟩ rfl K9 K9 ?_
     repeat (go_big_quiet_step (((with_reducible refine(HV.out _).mono ?_);rintro _ w8 ⟨rfl,b8⟩;exact⟨rfl,dJ.go _ b8⟩)))
     refine wpQuiet_nil ?_;rintro w9 ⟨u,rfl⟩;have HB2:=aa (show Below wo.heap.size wo u.w from u.2);go_wp2_with fail;refine⟨⟨k+1,HL.out,by go_num,HB2,HZ⟩,?_⟩;have:=HM.out;simp[intOf];omega
    ·have z0:decide (0<k)=true:=decide_eq_true O9;have s2:(0:Int)≤(k:Int)-1:=O9;have P1:=P0 hk0;have HZ0:Hid ((ls&&mC (jJ l (k+1)) (l.drop (k+1)))=R):=by
      rw[HNX.out,←HR2.out,decide_eq_false hk0];exact aa (by simp)
     generalize jJ l k=pr at*;clear P0 hk0;cases ls with
     |true=>
      have HZ:Hid (mC (jJ l (k+1)) (l.drop (k+1))=R):=aa (by have:=HZ0.out;simpa using this);go_wp2_with fail;refine au (J:=dJ wo) dJ.w ⟨_,hbd⟩ rfl K9 K9 ?_
      repeat (go_big_quiet_step (((with_reducible refine(HV.out _).mono ?_);rintro _ w8 ⟨rfl,b8⟩;exact⟨rfl,dJ.go _ b8⟩)))
      refine wpQuiet_nil ?_;rintro w9 ⟨u,rfl⟩;have HB2:=aa (show Below wo.heap.size wo u.w from u.2);go_wp2_with fail;refine⟨⟨k+1,HL.out,by go_num,HB2,HZ⟩,?_⟩;have:=HM.out;simp[intOf];omega
     |false=>
      have HZ:=aa (show R=false from by rw[←HZ0.out];rfl);go_wp2_with fail;refine au (J:=dJ wo) dJ.w ⟨_,hbd⟩ rfl K9 K9 ?_
      repeat (go_big_quiet_step (((with_reducible refine(HV.out _).mono ?_);rintro _ w8 ⟨rfl,b8⟩;exact⟨rfl,dJ.go _ b8⟩)))
      refine wpQuiet_nil ?_;rintro w9 ⟨u,rfl⟩;have HB2:=aa (aq HBO.out u.2);go_wp2_with fail;go_ret;exact⟨ag HZ.out.symm,HB2.out⟩
  ·(have hz:R=true:=by rw[←hr.out,List.drop_eq_nil_of_le O9];rfl);have HZ:=aa hz;have HB:=aa (aq HBO.out hb.out);clear hz hr hb;go_wp2_with fail;go_ret;exact⟨ag HZ.out.symm,HB.out⟩
