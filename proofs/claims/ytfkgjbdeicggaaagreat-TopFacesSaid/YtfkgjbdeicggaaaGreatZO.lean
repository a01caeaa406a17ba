/-
  The class of each byte, and the lexer's Name, walked over the classes.
-/
import Derived.Test.YtfkgjbdeicggaaaGreatZM
import Derived.Test.YtfkgjbdeicggaaaGreatZN
import Derived.Deep.AppendLies
import Derived.Deep.CutBlock
import Derived.Deep.DeepCutAuto
import Derived.Deep.RegionHeld3
import Derived.Laws.EntriesVeiled
set_option maxHeartbeats 8000000
set_option maxRecDepth 100000
namespace Go.Proofs.YtfkgjbdeicggaaaGreat
open Go.RowKit Go.Proofs.Px
theorem Ch(c:UInt8):dP[c.toNat]? =some (GS c.toNat):=by
 have:=c.toNat_lt;simp[dP,this]
def kZ(c:UInt8):Int:=(cls c.toNat:Int)
theorem sJ(p:UInt8→Bool)(h:∀n:Fin 256,p (UInt8.ofNat n)=true)(c:UInt8):p c=true:=by
 have:=h ⟨c.toNat,c.toNat_lt⟩;simpa using this
theorem yN(c:UInt8):(kZ c ==3)=cQ c:=by
 have:=sJ (fun c=>(kZ c ==3) ==cQ c) (by decide+kernel) c;simpa using this
theorem E6(c:UInt8):(kZ c ==3||kZ c ==4||kZ c ==5)=isWord c:=by
 have:=sJ (fun c=>(kZ c ==3||kZ c ==4||kZ c ==5) ==isWord c) (by decide+kernel) c;simpa using this
theorem fN(s:ByteArray)(w:World)(hs:s.size≤maxLen):Calls Tryz.prog 79 #[.string s] w fun e w'=>e= .returned (.bool (name s.data.toList))∧Below w.heap.size w w':=by
 unfold maxLen at hs;obtain⟨R,hR⟩:∃R,R=name s.data.toList:=⟨_,rfl⟩;rw[←hR];have HR:=aa hR;clear hR;go_enter Tryz.func79,Tryz.ntmps79;go_wp2_with fail;refine(wh _).mono ?_;rintro e w1 ⟨rfl,hb⟩;go_wp2_with (refine wpList_store_row rfl 220 (.tmp 3) (.tmp 6) rfl w1.heap.size dP rfl rfl 220 jH (heap_alloc_new w1 _) (by rw[fM];exact ie) (by rw[fM];simp[jH]) qN ?_;rw[World.setRow_alloc_new]);have hcl:=fun c:UInt8=>cell_of_row (w1.alloc (.cells dP 220)) w1.heap.size c.toNat dP _ _ (heap_alloc_new w1 _)
 have HCL:=aa hcl;have HB:=aa (hb.alloc hb.size (.cells dP 220));clear hb hcl
 go_loop [9] (fun i=>∃k:Nat,k≤s.size∧i= .int .i64 k∧Hid ((k=0∨fD s.data.toList=true)∧dI (s.data.toList.drop k)=dI s.data.toList)) (fun i=>s.size-(intOf i).toNat)
 case atStart=>exact⟨0,Nat.zero_le _,rfl,.inl rfl,rfl⟩
 case round=>
  obtain⟨k,hk,rfl,hrel⟩:=hrel;by_cases hlt:k<s.size
  ·have hd:=aa (drop_cons s k hlt);have hc:(w1.alloc (.cells dP 220)).cell? ⟨w1.heap.size,s[k].toNat,none⟩=some (.int .u8 (kZ s[k])):=by
    rw[HCL.out,Ch];rfl
   have hb:s[k].toNat<256:=s[k].toNat_lt;have hb2:(s[k].toNat:Int)<256:=O9;have e3:=yN s[k];have ew:=E6 s[k];cases hl:cQ s[k]
   ·(have t3:(kZ s[k] != 3)=true:=by rw[bne,e3,hl];rfl);rcases Nat.eq_zero_or_pos k with h0|h0
    ·subst h0;have HF:Hid (R=false):=by
      show _=_;have e:=hd.out;rw[List.drop_zero]at e;rw[HR.out,lU,show fD s.data.toList=false from by rw[e];exact hl];simp
     clear e3 ew hl;go_wp2;go_ret;exact⟨ag HF.out.symm,HB.out⟩
    ·(have t0:((k:Int) ==0)=false:=by rw[beq_eq_false_iff_ne];omega);cases hw:isWord s[k]
     ·rw[e3,hl,hw,Bool.false_or,Bool.or_eq_false_iff]at ew;(have t4:(kZ s[k] != 4)=true:=by rw[bne,ew.1];rfl);(have t5:(kZ s[k] != 5)=true:=by rw[bne,ew.2];rfl);have HF:Hid (R=false):=by
       show _=_;rw[HR.out,lU,←hrel.out.2,hd.out];simp[dI,hw]
      clear e3 ew hl hw;go_wp2;go_ret;exact⟨ag HF.out.symm,HB.out⟩
     ·rw[e3,hl,hw,Bool.false_or]at ew;have hn:Hid ((k+1=0∨fD s.data.toList=true)∧dI (s.data.toList.drop (k+1))=dI s.data.toList):=by
       refine⟨.inr (hrel.out.1.resolve_left O9),?_⟩;rw[←hrel.out.2,hd.out];simp[dI,hw]
      cases h4:(kZ s[k] ==4)
      ·(have t4:(kZ s[k] != 4)=true:=by rw[bne,h4];rfl);rw[h4,Bool.false_or]at ew;(have t5:(kZ s[k] != 5)=false:=by rw[bne,ew];rfl);clear e3 ew hl hw h4 hrel;go_wp2
       go_round
       case rel=>exact⟨k+1,O9,by go_num,hn⟩
       case measure=>simp[intOf];omega
      ·(have t4:(kZ s[k] != 4)=false:=by rw[bne,h4];rfl);clear e3 ew hl hw h4 hrel;go_wp2
       go_round
       case rel=>exact⟨k+1,O9,by go_num,hn⟩
       case measure=>simp[intOf];omega
   ·(have t3:(kZ s[k] != 3)=false:=by rw[bne,e3,hl];rfl);have hn:Hid ((k+1=0∨fD s.data.toList=true)∧dI (s.data.toList.drop (k+1))=dI s.data.toList):=by
     refine⟨.inr ?_,?_⟩
     ·rcases hrel.out.1 with h0|h0
      ·subst h0;have e:=hd.out;rw[List.drop_zero]at e;rw[e];exact hl
      ·exact h0
     ·rw[←hrel.out.2,hd.out];simp[dI,vD _ hl]
    clear e3 ew hl hrel;go_wp2
    go_round
    case rel=>exact⟨k+1,O9,by go_num,hn⟩
    case measure=>simp[intOf];omega
  ·(obtain rfl:s.size=k:=by omega);have hall:dI s.data.toList=true:=by
    rw[←hrel.out.2,nG s _ hlt];rfl
   by_cases h0:s.size=0
   ·(have hnil:s.data.toList=[]:=by have:=nG s 0 O9;simpa using this);(have hemp:s.toList=[]:=by rw[ByteArray.toList_eq,hnil]);(have HF:Hid (R=false):=by show _=_;rw[HR.out,hnil];rfl);(have hemp2:s.toList.isEmpty=true:=by rw[hemp];rfl);clear hnil hall;go_wp2;go_ret;exact⟨ag HF.out.symm,HB.out⟩
   ·have hh:fD s.data.toList=true:=hrel.out.1.resolve_left h0;(have HF:Hid (R=decide (s.size≤24)):=by show _=_;rw[HR.out,lU,hall,hh,lV];rfl);have hne:s.toList≠[]:=by
     rw[ByteArray.toList_eq];intro e;have:=congrArg List.length e;rw[lV]at this;exact h0 (by simpa using this)
    (have hemp2:s.toList.isEmpty=false:=by simpa using hne);clear hall hh;go_wp2;go_ret;exact⟨ag (by rw[HF.out,Bool.eq_iff_iff];simp only[decide_eq_true_eq];omega),HB.out⟩
end Go.Proofs.YtfkgjbdeicggaaaGreat
namespace Go.Proofs.YtfkgjbdeicggaaaGreat
open Go.RowKit Go.Proofs.Px Go.Proofs.Pn
def A4(W:World)(g o:Nat)(l:List Tg):Prop:=∀(i:Nat) t,l[i]? =some t→W.cell? ⟨g,o+i*2,none⟩=some (.string t.k)∧W.cell? ⟨g,o+i*2+1,none⟩=some (.string t.v)
theorem A4.below{W W':World}{g o n₀:Nat}{l:List Tg}(h:A4 W g o l)(hg:g<n₀)(hb:Below n₀ W W'):A4 W' g o l:=
 fun i p hp=>⟨(hb.cell (p:=⟨g,_,none⟩) hg).trans (h i p hp).1,(hb.cell (p:=⟨g,_,none⟩) hg).trans (h i p hp).2⟩
def qO(W:World)(v:Value)(l:List Tg):Prop:=∃A c,v= .slice A l.length c∧(l=[]∨∃g o,A=some ⟨g,o,none⟩∧g<W.heap.size∧A4 W g o l)
theorem qO.below{W W':World}{v:Value}{l:List Tg}(h:qO W v l)(hb:Below W.heap.size W W'):qO W' v l:=by
 obtain⟨A,c,hv,h⟩:=h;refine⟨A,c,hv,?_⟩;rcases h with h|⟨g,o,hA,hg,hp⟩
 ·exact .inl h
 ·exact .inr ⟨g,o,hA,Nat.lt_of_lt_of_le hg hb.size,hp.below hg hb⟩
def nH(W:World)(g o:Nat)(l:List ByteArray):Prop:=∀(i:Nat) s,l[i]? =some s→W.cell? ⟨g,o+i,none⟩=some (.string s)
theorem nH.below{W W':World}{g o n₀:Nat}{l:List ByteArray}(h:nH W g o l)(hg:g<n₀)(hb:Below n₀ W W'):nH W' g o l:=
 fun i p hp=>(hb.cell (p:=⟨g,_,none⟩) hg).trans (h i p hp)
def ff(W:World)(v:Value)(l:List ByteArray):Prop:=∃A c,v= .slice A l.length c∧l.length≤c∧(l=[]∨∃g o,A=some ⟨g,o,none⟩∧g<W.heap.size∧nH W g o l)
theorem ff.below{W W':World}{v:Value}{l:List ByteArray}(h:ff W v l)(hb:Below W.heap.size W W'):ff W' v l:=by
 obtain⟨A,c,hv,hc,h⟩:=h;refine⟨A,c,hv,hc,?_⟩;rcases h with h|⟨g,o,hA,hg,hp⟩
 ·exact .inl h
 ·exact .inr ⟨g,o,hA,Nat.lt_of_lt_of_le hg hb.size,hp.below hg hb⟩
theorem lt_of_block{w:World}{g:Nat}{o:Obj}(h:w.heap[g]? =some o):g<w.heap.size:=(Array.getElem?_eq_some_iff.1 h).1
theorem frozen_of_row(w:World)(g i:Nat)(cs:Array Value)(t:TypeId)(h:w.heap[g]? =some (.cells cs t (0,0))):w.frozen? ⟨g,i,none⟩=false:=by simp[World.frozen?,h]
theorem cD{w:World}{g:Nat}{a:Value}{t:TypeId}(h:w.heap[g]? =some (.cells #[a] t (0,0))):w.cell? ⟨g,0,none⟩=some a∧w.frozen? ⟨g,0,none⟩=false:=
 ⟨cell_of_row w g 0 _ t _ h,frozen_of_row w g 0 _ t h⟩
theorem ub(l:List Tg)(k:Nat)(h:k<l.length):l.drop k=l[k]::l.drop (k+1):=List.drop_eq_getElem_cons h
theorem gI(l:List Tg)(v:Value)(w:World)(hv:qO w v l)(hl:l.length≤100000)(hs:∀t∈l,t.k.size≤maxLen∧t.v.size≤maxLen):Calls Tryz.prog 80 #[v] w fun e w'=>e= .returned (.bool (fV l))∧Below w.heap.size w w':=by
 obtain⟨R,hR⟩:∃R,fV l=R:=⟨_,rfl⟩;rw[hR];have HR:=aa hR;clear hR;obtain⟨A,c,rfl,hA⟩:=hv;have HA:=aa hA;have HS:=aa hs;clear hA hs;go_enter Tryz.func80,Tryz.ntmps80;go_wp2_with fail;go_loopw [3,8] (fun s i wr=>∃(k:Nat)(last:ByteArray),k≤l.length∧i= .int .i64 k∧s= .string last∧Hid (Below w.heap.size w wr)∧Hid ((rA last (l.drop k)&&decide (l.length≤60))=R)) (fun _ i _=>l.length-(intOf i).toNat)
 case atStart=>exact⟨0,⟨#[]⟩,Nat.zero_le _,rfl,rfl,Below.refl _ _,HR⟩
 case round=>
  obtain⟨k,last,hk,rfl,rfl,hb,hr⟩:=hrel;by_cases hlt:k<l.length
  ·obtain⟨g,o,rfl,hg,hp⟩:=HA.out.resolve_left (by rintro rfl;simp at hlt);obtain⟨c1,c2⟩:=(hp.below hg hb.out) k _ (List.getElem?_eq_getElem hlt);have hr2:=hr.out;rw[ub l k hlt,rA]at hr2;have hmem:l[k]∈l:=List.getElem_mem hlt;obtain⟨hs1,hs2⟩:=HS.out _ hmem;have HN:=aa (fun w=>fN l[k].k w hs1);generalize l[k]=t at*;obtain⟨tk,tv⟩:=t;simp only at c1 c2 hr2 hs1 hs2 HN;have k0:(0:Int)≤k:=O9;have k1:(k:Int)<l.length:=O9;have HL:=aa hlt;have HM:=aa (show l.length-(k+1)<l.length-k from by omega)
   have HR2:=aa hr2;clear hr hr2 hmem hp hlt;go_wp2_with fail;obtain⟨wo,hwo⟩:∃wo,wr.alloc (.cells #[.string tk,.string tv] 162)=wo:=⟨_,rfl⟩;(have hblk:wo.heap[wr.heap.size]? =some (.cells #[.string tk,.string tv] 162 (0,0)):=by rw[←hwo];exact heap_alloc_new _ _);(have hbo:Below w.heap.size w wo:=by rw[←hwo];exact hb.out.alloc hb.out.size _);rw[hwo];refine(HN.out _).mono ?_;rintro _ w2 ⟨rfl,b2⟩;have HB2:=aa (aq hbo b2);obtain⟨⟨d1,d2⟩,_⟩:=aW (ai b2 hblk);clear hwo hblk hbo b2 c1 c2
   cases hn:name tk.data.toList with
   |false=>
    have HZ:=aa (show R=false from by rw[←HR2.out,hn];simp);clear hn;go_wp2_with fail;go_ret;exact⟨ag HZ.out.symm,HB2.out⟩
   |true=>
    cases hb1:Go.Op.bytesLess tk.toList last.toList with
    |true=>
     have HZ:=aa (show R=false from by rw[←HR2.out,hb1];simp);clear hn;go_wp2_with fail;go_ret;exact⟨ag HZ.out.symm,HB2.out⟩
    |false=>
     cases hb2:(tk.toList ==last.toList)with
     |true=>
      have HZ:=aa (show R=false from by rw[←HR2.out,hb2];simp);(have hb3:tk.toList=last.toList:=by simpa using hb2);clear hn;go_wp2_with fail;go_ret;exact⟨ag HZ.out.symm,HB2.out⟩
     |false=>
      (have hb3:¬tk.toList=last.toList:=by simpa using hb2);cases hv:tv.toList.isEmpty with
      |true=>
       have HZ:=aa (show R=false from by rw[←HR2.out,hv];simp);(have hv2:tv.toList=[]:=by simpa using hv);clear hn;go_wp2_with fail;go_ret;exact⟨ag HZ.out.symm,HB2.out⟩
      |false=>
       (have hv2:¬tv.toList=[]:=by simpa using hv);by_cases hz:tv.size≤200
       ·(have hz2:¬(200:Int)<tv.size:=by omega);have HZ:=aa (show(rA tk (l.drop (k+1))&&decide (l.length≤60))=R from by
         rw[←HR2.out,hn,hb1,hb2,hv,decide_eq_true hz];rfl)
        clear hn;go_wp2_with fail;refine⟨⟨k+1,tk,HL.out,by go_num,rfl,HB2,HZ⟩,?_⟩;have:=HM.out;simp[intOf];omega
       ·(have hz2:(200:Int)<tv.size:=by omega);have HZ:=aa (show R=false from by rw[←HR2.out,decide_eq_false hz];simp);clear hn;go_wp2_with fail;go_ret;exact⟨ag HZ.out.symm,HB2.out⟩
  ·have hz:decide (l.length≤60)=R:=by
    rw[←hr.out,List.drop_eq_nil_of_le O9];rfl
   have HZ:=aa hz;have HB:=aa hb.out;clear hz hr hb;by_cases h6:l.length≤60
   ·(have h7:(l.length:Int)≤60:=by omega);go_wp2_with fail;go_ret;exact⟨ag (by rw[←HZ.out,decide_eq_true h6]),HB.out⟩
   ·(have h7:¬(l.length:Int)≤60:=by omega);go_wp2_with fail;go_ret;exact⟨ag (by rw[←HZ.out,decide_eq_false h6]),HB.out⟩
end Go.Proofs.YtfkgjbdeicggaaaGreat
namespace Go.Proofs.YtfkgjbdeicggaaaGreat
open Go.RowKit Go.Proofs.Px Go.Proofs.Pn Go.Proofs.Pm
attribute [local go_sem] run_makeMap
theorem au{P:Program}{id:Nat}{Q:Exit→Act→World→Prop}{a:Act}{w:World}{l:List Oper}{J:Type}(W:J→World)(u:J)(hu:w.drew=W u)(hm:P.follows .mixedOrders=true)(hB:Region.lexB .any l.toArray=true)
  (h:wpQuiet P l.toArray (fun w'=>∃u,w'=W u) (fun a'=>∀w',(∃u,w'=W u)→Q .normal a' w') l a):(Code.region id l.toArray true).wp P Q a w:=
 wp_region_quiet (C:=fun w'=>∃u,w'=W u) hm hB ⟨u,hu⟩ (by simpa using h)
def km(k:Int):ByteArray:=if k=1 then ⟨#[110,111,100,101]⟩else if k=2 then ⟨#[119,97,121]⟩else if k=3 then ⟨#[97,114,101,97]⟩else if k=4 then ⟨#[114,111,117,116,101]⟩else if k=5 then ⟨#[116,117,114,110]⟩else ⟨#[]⟩
theorem kinds(k:Int):k<0∨k=0∨k=1∨k=2∨k=3∨k=4∨k=5∨6≤k:=O9
theorem ik(k:Int)(h:k<1∨5<k):km k=⟨#[]⟩:=by
 unfold km
 repeat (rw[if_neg O9])
theorem im(k:Int)(w:World):Calls Tryz.prog 78 #[.int .i64 k] w fun e w'=>e= .returned (.string (km k))∧Below w.heap.size w w':=by
 have HB:∀o:Obj,Below w.heap.size w (w.alloc o):=fun o=>(Below.refl _ _).alloc (Nat.le_refl _) o;rcases kinds k with h|rfl|rfl|rfl|rfl|rfl|rfl|h
 case inl=>
  have HW:=aa (ik k (.inl O9));go_enter Tryz.func78,Tryz.ntmps78;go_wp2_with fail;go_ret;exact⟨pY HW.out.symm,HB _⟩
 case inr.inr.inr.inr.inr.inr.inr=>
  have HW:=aa (ik k (.inr O9));have h0:¬k<0:=O9;go_enter Tryz.func78,Tryz.ntmps78;go_wp2_with fail;go_ret;exact⟨pY HW.out.symm,HB _⟩
 all_goals
  go_enter Tryz.func78,Tryz.ntmps78;go_wp2_with fail;refine bodyPost_ret (v:=.string (km _)) (by simp[results,Tryz.f78,go_sem];decide) rfl ⟨rfl,HB _⟩
theorem oQ(k:Int)(h1:1≤k)(h5:k≤5)(w:World):Calls Tryz.prog 81 #[.int .i64 k] w fun e w'=>e= .returned (.int .i64 (eH k))∧w=w':=by
 have x1:∀w:World,(Instr.index 222 (.agg #[.int .i64 0,.int .i64 0,.int .i64 2,.int .i64 3,.int .i64 1,.int .i64 3]) (.int .i64 1)).run Tryz.prog w= .ok (.int .i64 0) w:=fun _=>K9;have x2:∀w:World,(Instr.index 222 (.agg #[.int .i64 0,.int .i64 0,.int .i64 2,.int .i64 3,.int .i64 1,.int .i64 3]) (.int .i64 2)).run Tryz.prog w= .ok (.int .i64 2) w:=fun _=>K9
 have x3:∀w:World,(Instr.index 222 (.agg #[.int .i64 0,.int .i64 0,.int .i64 2,.int .i64 3,.int .i64 1,.int .i64 3]) (.int .i64 3)).run Tryz.prog w= .ok (.int .i64 3) w:=fun _=>K9;have x4:∀w:World,(Instr.index 222 (.agg #[.int .i64 0,.int .i64 0,.int .i64 2,.int .i64 3,.int .i64 1,.int .i64 3]) (.int .i64 4)).run Tryz.prog w= .ok (.int .i64 1) w:=fun _=>K9
 have x5:∀w:World,(Instr.index 222 (.agg #[.int .i64 0,.int .i64 0,.int .i64 2,.int .i64 3,.int .i64 1,.int .i64 3]) (.int .i64 5)).run Tryz.prog w= .ok (.int .i64 3) w:=fun _=>K9;have x:(Instr.index 222 (.agg #[.int .i64 0,.int .i64 0,.int .i64 2,.int .i64 3,.int .i64 1,.int .i64 3]) (.int .i64 k)).run Tryz.prog w= .ok (.int .i64 (eH k)) w:=by
  have:k=1∨k=2∨k=3∨k=4∨k=5:=O9;rcases this with rfl|rfl|rfl|rfl|rfl
  ·exact x1 w
  ·exact x2 w
  ·exact x3 w
  ·exact x4 w
  ·exact x5 w
 clear x1 x2 x3 x4 x5;go_enter Tryz.func81,Tryz.ntmps81;go_wp2_with fail;go_ret;exact⟨rfl,rfl⟩
theorem IE(x y:Int)(w:World):Calls Tryz.prog 84 #[.agg #[.int .i64 x,.int .i64 y]] w fun e w'=>e= .returned (.bool (mg x y))∧Below w.heap.size w w':=by
 go_enter Tryz.func84,Tryz.ntmps84;go_wp2_with fail
 all_goals go_ret
 all_goals refine⟨ag ?_,(Below.refl _ _).alloc (Nat.le_refl _) _⟩
 all_goals (unfold mg;rw[Bool.eq_iff_iff];simp;omega)
end Go.Proofs.YtfkgjbdeicggaaaGreat
namespace Go.Proofs.YtfkgjbdeicggaaaGreat
open Go.RowKit Go.Proofs.Pg Go.Proofs.Pto
def aT(w w':World):Prop:=∃q os,w'=Sort.grow (w.drewN q) os
theorem aT.refl(w:World):aT w w:=⟨0,#[],by simp[World.drewN]⟩
theorem aT.trans{a b c:World}(h:aT a b)(k:aT b c):aT a c:=by
 obtain⟨q,os,rfl⟩:=h;obtain⟨q',os',rfl⟩:=k;refine⟨q+q',os++os',?_⟩;simp[Sort.grow,World.drewN,Nat.add_assoc]
theorem aT.alloc{a b:World}(h:aT a b)(o:Obj):aT a (b.alloc o):=h.trans ⟨0,#[o],by rw[Sort.alloc_eq_grow];simp[World.drewN]⟩
theorem aT.drew{a b:World}(h:aT a b):aT a b.drew:=h.trans ⟨1,#[],by rw[Sort.grow_empty];rfl⟩
theorem aT.drewN{a b:World}(h:aT a b)(n:Nat):aT a (b.drewN n):=h.trans ⟨n,#[],by simp⟩
theorem aT.below{a b:World}(h:aT a b):Below a.heap.size a b:=by
 obtain⟨q,os,rfl⟩:=h;exact⟨rfl,rfl,rfl,by simp[Sort.grow,World.drewN],fun k hk=>by simp[Sort.grow,World.drewN,Array.getElem?_append,hk]⟩
theorem E7(g c:Nat)(a b:Int)(w:World)(h0:w.cell? ⟨g,0,none⟩=some (.int .i64 a))(h1:w.cell? ⟨g,1,none⟩=some (.int .i64 b)):Calls Tryz.prog 62 #[.slice (some ⟨g,0,none⟩) 2 c] w fun e w'=>e= .returned (.int .i64 (if a=0 then b else a))∧w=w':=by
 by_cases ha:a=0
 ·rw[if_pos ha];subst ha;by_cases hb:b=0
  ·subst hb;go_enter Tryz.func62,Tryz.ntmps62;go_wp2_with fail;refine wp_loop_rounds 3 ?_;rw[rounds_succ];go_wp2_with fail;rw[rounds_succ];go_wp2_with fail;rw[rounds_succ];go_wp2_with fail;go_ret;exact⟨rfl,rfl⟩
  ·have e1:(b ==0)=false:=beq_eq_false_iff_ne.2 hb;(have e2:(b != 0)=true:=by rw[bne,e1];rfl);go_enter Tryz.func62,Tryz.ntmps62;go_wp2_with fail;refine wp_loop_rounds 3 ?_;rw[rounds_succ];go_wp2_with fail;rw[rounds_succ];go_wp2_with fail;go_ret;exact⟨rfl,rfl⟩
 ·have e1:(a ==0)=false:=beq_eq_false_iff_ne.2 ha;have e2:(a != 0)=true:=by rw[bne,e1];rfl
  rw[if_neg ha];go_enter Tryz.func62,Tryz.ntmps62;go_wp2_with fail;refine wp_loop_rounds 3 ?_;rw[rounds_succ];go_wp2_with fail;go_ret;exact⟨rfl,rfl⟩
theorem Ja(g c:Nat)(a b R:Int)(hR:R=if a=0 then b else a)(w:World)(h0:w.cell? ⟨g,0,none⟩=some (.int .i64 a))(h1:w.cell? ⟨g,1,none⟩=some (.int .i64 b)):Calls Tryz.prog 62 #[.slice (some ⟨g,0,none⟩) 2 c] w fun e w'=>e= .returned (.int .i64 R)∧w=w':=by
 rw[hR];exact E7 g c a b w h0 h1
theorem IF(a b R:Int)(hR:R=if a=0 then b else a)(W:World):Calls Tryz.prog 62 #[.slice (some ⟨W.heap.size,0,none⟩) 2 2] (W.alloc (.cells #[.int .i64 a,.int .i64 b] 3)).drew fun e w'=>e= .returned (.int .i64 R)∧(W.alloc (.cells #[.int .i64 a,.int .i64 b] 3)).drew=w':=by
 rw[hR];exact E7 _ 2 a b _ (cell_of_row (W.alloc (.cells #[.int .i64 a,.int .i64 b] 3)) _ 0 _ _ _ (heap_alloc_new _ _)) (cell_of_row (W.alloc (.cells #[.int .i64 a,.int .i64 b] 3)) _ 1 _ _ _ (heap_alloc_new _ _))
theorem qP(a b:Int)(w:World):Calls Tryz.prog 59 #[.int .i64 a,.int .i64 b] w fun e w'=>e= .returned (.agg #[.int .i64 (min a b),.int .i64 (max a b)])∧aT w w':=by
 rcases Int.lt_trichotomy b a with h|rfl|h
 ·rw[show min a b=b by omega,show max a b=a by omega];have h2:¬a<b:=O9;have h3:¬a≤b:=O9;have h4:b≤a:=O9;go_enter Tryz.func59,Tryz.ntmps59;go_wp2_with fail;refine bodyPost_ret (v:=.agg #[.int .i64 b,.int .i64 a]) ?_ rfl ⟨rfl,(aT.refl _).alloc _⟩;simp[results,Tryz.results59,go_sem]<;>omega
 ·rw[show min b b=b by omega,show max b b=b by omega];go_enter Tryz.func59,Tryz.ntmps59;go_wp2_with fail;refine bodyPost_ret (v:=.agg #[.int .i64 b,.int .i64 b]) ?_ rfl ⟨rfl,(aT.refl _).alloc _⟩;simp[results,Tryz.results59,go_sem]
 ·rw[show min a b=a by omega,show max a b=b by omega];have h2:¬b<a:=O9;have h3:¬b≤a:=O9;have h4:a≤b:=O9;go_enter Tryz.func59,Tryz.ntmps59;go_wp2_with fail;refine bodyPost_ret (v:=.agg #[.int .i64 a,.int .i64 b]) ?_ rfl ⟨rfl,(aT.refl _).alloc _⟩;simp[results,Tryz.results59,go_sem]<;>omega
theorem yO(a b c d:Int)(w:World):Calls Tryz.prog 66 #[.agg #[.int .i64 a,.int .i64 b],.agg #[.int .i64 c,.int .i64 d]] w fun e w'=>e= .returned (.bool (decide (a≤d)&&decide (c≤b)))∧aT w w':=by
 by_cases h1:a≤d
 ·by_cases h2:c≤b
  ·have d2:decide (c≤b)=true:=decide_eq_true h2;have d1:decide (a≤d)=true:=decide_eq_true h1;rw[d1,d2];go_enter Tryz.func66,Tryz.ntmps66;go_wp2_with fail;go_ret;exact⟨rfl,((aT.refl _).alloc _).alloc _⟩
  ·have d2:decide (c≤b)=false:=decide_eq_false h2;have d1:decide (a≤d)=true:=decide_eq_true h1;rw[d1,d2];go_enter Tryz.func66,Tryz.ntmps66;go_wp2_with fail;go_ret;exact⟨rfl,((aT.refl _).alloc _).alloc _⟩
 ·have d1:decide (a≤d)=false:=decide_eq_false h1;rw[d1];go_enter Tryz.func66,Tryz.ntmps66;go_wp2_with fail;go_ret;exact⟨rfl,((aT.refl _).alloc _).alloc _⟩
def bB(i:It):List Value:=[.int .i64 (i.ix:Int),.int .i64 i.s.a.x,.int .i64 i.s.a.y,.int .i64 i.s.b.x,.int .i64 i.s.b.y,.int .i64 i.xl,.int .i64 i.xh,.int .i64 i.yl,.int .i64 i.yh]
def H6(x y:It):Int:=if eO x.xl y.xl=0 then (x.ix:Int)-y.ix else eO x.xl y.xl
theorem pJ{w:World}{g:Nat}{a b c d e f p q r:Value}{t:TypeId}(h:w.heap[g]? =some (.cells #[a,b,c,d,e,f,p,q,r] t (0,0))):w.cell? ⟨g,0,none⟩=some a∧w.cell? ⟨g,1,none⟩=some b∧w.cell? ⟨g,2,none⟩=some c∧w.cell? ⟨g,3,none⟩=some d∧w.cell? ⟨g,4,none⟩=some e∧w.cell? ⟨g,5,none⟩=some f∧w.cell? ⟨g,6,none⟩=some p∧w.cell? ⟨g,7,none⟩=some q∧w.cell? ⟨g,8,none⟩=some r:=
 ⟨cell_of_row w g 0 _ t _ h,cell_of_row w g 1 _ t _ h,cell_of_row w g 2 _ t _ h,cell_of_row w g 3 _ t _ h,cell_of_row w g 4 _ t _ h,cell_of_row w g 5 _ t _ h,cell_of_row w g 6 _ t _ h,cell_of_row w g 7 _ t _ h,cell_of_row w g 8 _ t _ h⟩
structure Gb(w:World)(x y:It)(W:World):Prop where
 grows:aT w W
 bx:W.heap[w.heap.size]? =some (.cells (bB x).toArray 135 (0,0))
 bY:W.heap[w.heap.size+1]? =some (.cells (bB y).toArray 135 (0,0))
theorem Gb.more{w:World}{x y:It}{W W':World}(h:Gb w x y W)(hg:aT W W'):Gb w x y W':=by
 have key:∀ {i:Nat}{o:Obj},W.heap[i]? =some o→W'.heap[i]? =some o:=fun {i o} hi=>(hg.below.block i (Array.getElem?_eq_some_iff.1 hi).1).trans hi;exact⟨h.grows.trans hg,key h.bx,key h.bY⟩
theorem Gb.cells{w:World}{x y:It}{W:World}(h:Gb w x y W):(W.cell? ⟨w.heap.size,5,none⟩=some (.int .i64 x.xl)∧W.cell? ⟨w.heap.size,0,none⟩=some (.int .i64 (x.ix:Int)))∧(W.cell? ⟨w.heap.size+1,5,none⟩=some (.int .i64 y.xl)∧W.cell? ⟨w.heap.size+1,0,none⟩=some (.int .i64 (y.ix:Int))):=by
 obtain⟨a0,_,_,_,_,a5,_⟩:=pJ h.bx;obtain⟨b0,_,_,_,_,b5,_⟩:=pJ h.bY;exact⟨⟨a5,a0⟩,b5,b0⟩
theorem yP(x y:It)(w:World)(hx:x.ix≤1000000)(hy:y.ix≤1000000):Calls Tryz.prog 61 #[.agg (bB x).toArray,.agg (bB y).toArray] w fun e w'=>e= .returned (.int .i64 (H6 x y))∧aT w w':=by
 have HTW:Hid (Gb w x y ((w.alloc (.cells (bB x).toArray 135)).alloc (.cells (bB y).toArray 135))):=by
  refine aa ⟨((aT.refl _).alloc _).alloc _,?_,?_⟩
  ·exact(((Below.refl _ (w.alloc (.cells (bB x).toArray 135))).alloc (Nat.le_refl _) (.cells (bB y).toArray 135)).block _ (by simp)).trans (heap_alloc_new _ _)
  ·have h9:=heap_alloc_new (w.alloc (.cells (bB x).toArray 135)) (.cells (bB y).toArray 135);rw[World.size_alloc]at h9;exact h9
 have HC:=aa (fun W=>pP x.xl y.xl W);have HCF:Hid (H6 x y=if eO x.xl y.xl=0 then (x.ix:Int)-y.ix else eO x.xl y.xl):=aa rfl;unfold bB at HTW ⊢;go_enter Tryz.func61,Tryz.ntmps61;go_upto_region 1 with(fail);generalize (w.alloc _).alloc _=w2 at*;have HTD:=aa (HTW.out.more (aT.refl _).drew);have hwr:IntKind.i64.wrap ((x.ix:Int)-(y.ix:Int))=(x.ix:Int)-(y.ix:Int):=by simp[IntKind.wrap,IntKind.bits,IntKind.signed];omega
 have HT2:=HTW;clear HTW;obtain⟨xl,hxl⟩:∃xl,x.xl=xl:=⟨_,rfl⟩;obtain⟨yl,hyl⟩:∃yl,y.xl=yl:=⟨_,rfl⟩;rw[hxl,hyl]at HC HCF;have key:∀W,Gb w x y W→((W.cell? ⟨w.heap.size,5,none⟩=some (.int .i64 xl)∧W.cell? ⟨w.heap.size,0,none⟩=some (.int .i64 (x.ix:Int)))∧(W.cell? ⟨w.heap.size+1,5,none⟩=some (.int .i64 yl)∧W.cell? ⟨w.heap.size+1,0,none⟩=some (.int .i64 (y.ix:Int)))):=fun W h=>by have:=h.cells;rw[hxl,hyl]at this;exact this
 have KEY:=aa key;clear hxl hyl key;go_region_held3 (fun w'=>Gb w x y w'∧((w'.cell? ⟨w.heap.size,5,none⟩=some (.int .i64 xl)∧w'.cell? ⟨w.heap.size,0,none⟩=some (.int .i64 (x.ix:Int)))∧(w'.cell? ⟨w.heap.size+1,5,none⟩=some (.int .i64 yl)∧w'.cell? ⟨w.heap.size+1,0,none⟩=some (.int .i64 (y.ix:Int)))))
  (first|exact⟨HTD.out,KEY.out _ HTD.out⟩|exact⟨HT2.out.more (((aT.refl _).alloc _).drew),KEY.out _ (HT2.out.more (((aT.refl _).alloc _).drew))⟩|exact⟨Gb.more (And.left (by assumption)) ((aT.refl _).alloc _),KEY.out _ (Gb.more (And.left (by assumption)) ((aT.refl _).alloc _))⟩)
  (first
   |(go_at_call 63;(refine(HC.out _).mono ?_);rintro _ _ ⟨rfl,rfl⟩)
   |(go_at_call 62;(refine(IF (eO xl yl) ((x.ix:Int)-y.ix) _ HCF.out _).mono ?_);rintro _ _ ⟨rfl,rfl⟩))
 all_goals
  have HT:=And.left (by assumption);have HG:=aa HT.grows;clear HT;go_wp2_with fail;go_ret;exact⟨rfl,HG.out⟩
def fR(m:Mt):List Value:=[.int .i64 (m.a:Int),.int .i64 (m.b:Int),.int .i64 m.kind]
def H7(x y:Mt):Int:=if (x.a:Int)-y.a=0 then (x.b:Int)-y.b else (x.a:Int)-y.a
theorem yQ(x y:Mt)(w:World)(hx:x.a≤1000000∧x.b≤1000000)(hy:y.a≤1000000∧y.b≤1000000):Calls Tryz.prog 68 #[.agg (fR x).toArray,.agg (fR y).toArray] w fun e w'=>e= .returned (.int .i64 (H7 x y))∧aT w w':=by
 have HCF:Hid (H7 x y=if (x.a:Int)-y.a=0 then (x.b:Int)-y.b else (x.a:Int)-y.a):=aa rfl;have hw1:IntKind.i64.wrap ((x.a:Int)-(y.a:Int))=(x.a:Int)-(y.a:Int):=by simp[IntKind.wrap,IntKind.bits,IntKind.signed];omega
 have hw2:IntKind.i64.wrap ((x.b:Int)-(y.b:Int))=(x.b:Int)-(y.b:Int):=by simp[IntKind.wrap,IntKind.bits,IntKind.signed];omega
 have HG:Hid (aT w (((w.alloc (.cells (fR x).toArray 73)).alloc (.cells (fR y).toArray 73)).alloc (.cells #[.int .i64 ((x.a:Int)-y.a),.int .i64 ((x.b:Int)-y.b)] 3))):=aa ((((aT.refl _).alloc _).alloc _).alloc _);have h9:=heap_alloc_new ((w.alloc (.cells (fR x).toArray 73)).alloc (.cells (fR y).toArray 73)) (.cells #[.int .i64 ((x.a:Int)-y.a),.int .i64 ((x.b:Int)-y.b)] 3);rw[World.size_alloc,World.size_alloc]at h9
 have HO:=aa (Ja (w.heap.size+1+1) 2 _ _ _ HCF.out _ (cell_of_row _ _ 0 _ _ _ h9) (cell_of_row _ _ 1 _ _ _ h9));clear h9;unfold fR at HG HO ⊢;go_enter Tryz.func68,Tryz.ntmps68;go_wp2_with fail;refine HO.out.mono ?_;rintro _ _ ⟨rfl,rfl⟩;clear HO;go_wp2_with fail;go_ret;exact⟨rfl,HG.out⟩
theorem sK(g:Nat)(a b:It)(w:World)(hg:w.heap[g]? =some (.cells (bB a).toArray 135 (0,0))):Calls Tryz.prog 65 #[.agg (bB b).toArray,.pointer (some ⟨g,0,none⟩)] w fun e w'=>e= .returned (.bool (decide (b.xh<a.xl)))∧aT w w':=by
 have hlt:g<w.heap.size:=(Array.getElem?_eq_some_iff.1 hg).1;have h1:(w.alloc (.cells (bB b).toArray 135)).heap[g]? =some (.cells (bB a).toArray 135 (0,0)):=(((Below.refl _ w).alloc (Nat.le_refl _) (.cells (bB b).toArray 135)).block g hlt).trans hg;have h2:=heap_alloc_new w (.cells (bB b).toArray 135);obtain⟨_,_,_,_,_,c5,_⟩:=pJ h1;obtain⟨_,_,_,_,_,_,d6,_⟩:=pJ h2;have HG:Hid (aT w (w.alloc (.cells (bB b).toArray 135))):=aa ((aT.refl _).alloc _);clear h1 h2 hg;unfold bB at HG c5 d6 ⊢
 go_enter Tryz.func65,Tryz.ntmps65;go_wp2_with fail;go_ret;exact⟨rfl,HG.out⟩
end Go.Proofs.YtfkgjbdeicggaaaGreat
namespace Go.Proofs.YtfkgjbdeicggaaaGreat
open Go.RowKit Go.Proofs.Pg Go.Proofs.Pf
def ks(x y:Int):Bool:=decide (y<0)||(decide (y=0)&&decide (x<0))
def E8(x y u v:Int):Int:=if ks x y=ks u v then eO (y*u) (x*v)else if ks u v=true then-1 else 1
theorem E9(v a b:Pt):E8 (a.x-v.x) (a.y-v.y) (b.x-v.x) (b.y-v.y)<0↔kq v a b:=by
 have hl:∀a:Pt,ks (a.x-v.x) (a.y-v.y)=true↔low v a:=fun a=>by
  unfold ks low;simp only[Bool.or_eq_true,Bool.and_eq_true,decide_eq_true_eq];omega
 have ec:ae a v b=(a.y-v.y)*(b.x-v.x)-(a.x-v.x)*(b.y-v.y):=by unfold ae;grind
 unfold E8 kq;rw[←hl a,←hl b,ec];rcases bN ((a.y-v.y)*(b.x-v.x)) ((a.x-v.x)*(b.y-v.y))with⟨g,e⟩|⟨g,e⟩|⟨g,e⟩<;>rw[e]<;>cases ks (a.x-v.x) (a.y-v.y)<;>cases ks (b.x-v.x) (b.y-v.y)<;>simp<;>omega
theorem sL(x y:Int)(w:World):Calls Tryz.prog 145 #[.agg #[.int .i64 x,.int .i64 y]] w fun e w'=>e= .returned (.bool (ks x y))∧aT w w':=by
 obtain⟨R,hR⟩:∃R,R=ks x y:=⟨_,rfl⟩;rw[←hR];have HR:=aa hR;clear hR;have HB:=aa ((aT.refl w).alloc (.cells #[.int .i64 x,.int .i64 y] 189));rcases Int.lt_trichotomy y 0 with h|h|h
 ·have hr:R=true:=by rw[HR.out];unfold ks;simp[h]
  go_enter Tryz.func145,Tryz.ntmps145;go_wp2_with fail;go_ret
  first|exact⟨ag hr.symm,HB.out⟩|exact⟨ag rfl,HB.out⟩
 ·subst h;by_cases hx:x<0
  ·(have hr:R=true:=by rw[HR.out];unfold ks;simp[hx]);go_enter Tryz.func145,Tryz.ntmps145;go_wp2_with fail;go_ret
   first|exact⟨ag hr.symm,HB.out⟩|exact⟨ag rfl,HB.out⟩
  ·(have hr:R=false:=by rw[HR.out];unfold ks;simp[hx]);go_enter Tryz.func145,Tryz.ntmps145;go_wp2_with fail;go_ret
   first|exact⟨ag hr.symm,HB.out⟩|exact⟨ag rfl,HB.out⟩
 ·have hr:R=false:=by rw[HR.out];unfold ks;simp[show ¬y<0 from by omega,show ¬y=0 from by omega]
  have h2:¬y<0:=O9;have h3:¬y=0:=O9;go_enter Tryz.func145,Tryz.ntmps145;go_wp2_with fail;go_ret
  first|exact⟨ag hr.symm,HB.out⟩|exact⟨ag rfl,HB.out⟩
structure DB(w wx:World)(x y u v:Int):Prop where
 a:wx.heap[w.heap.size]? =some (.cells #[.int .i64 x,.int .i64 y] 189 (0,0))
 b:wx.heap[w.heap.size+1]? =some (.cells #[.int .i64 u,.int .i64 v] 189 (0,0))
 below:aT w wx
theorem DB.lift{w wx wy:World}{x y u v:Int}(h:DB w wx x y u v)(hb:aT wx wy):DB w wy x y u v:=⟨ai hb.below h.a,ai hb.below h.b,h.below.trans hb⟩
theorem DB.drew{w wx:World}{x y u v:Int}(h:DB w wx x y u v):DB w wx.drew x y u v:=⟨h.a,h.b,h.below.drew⟩
def xU(w:World)(x y u v:Int):Type:= {wx:World//DB w wx x y u v}
def xU.w{w:World}{x y u v:Int}(d:xU w x y u v):World:=d.1
theorem xU.go{w:World}{x y u v:Int}(d:xU w x y u v){w8:World}(hb:aT d.w w8):∃d':xU w x y u v,w8=d'.w:=⟨⟨w8,d.2.lift hb⟩,rfl⟩
theorem xU.s(w:World)(x y u v:Int):(∀d:xU w x y u v,d.w.cell? ⟨w.heap.size,0,none⟩=some (.int .i64 x))∧(∀d:xU w x y u v,d.w.cell? ⟨w.heap.size,1,none⟩=some (.int .i64 y))∧(∀d:xU w x y u v,d.w.cell? ⟨w.heap.size+1,0,none⟩=some (.int .i64 u))∧(∀d:xU w x y u v,d.w.cell? ⟨w.heap.size+1,1,none⟩=some (.int .i64 v)):=
 ⟨fun d=>(aW d.2.a).1.1,fun d=>(aW d.2.a).1.2,fun d=>(aW d.2.b).1.1,fun d=>(aW d.2.b).1.2⟩
theorem ud(x y u v:Int)(w:World)(hx: -2097152≤x∧x≤2097152)(hy: -2097152≤y∧y≤2097152)(hu: -2097152≤u∧u≤2097152)(hv: -2097152≤v∧v≤2097152):Calls Tryz.prog 96 #[.agg #[.int .i64 x,.int .i64 y],.agg #[.int .i64 u,.int .i64 v]] w fun e w'=>e= .returned (.int .i64 (E8 x y u v))∧aT w w':=by
 have p1:=sF hy.1 hy.2 hu.1 hu.2;have p2:=sF hx.1 hx.2 hv.1 hv.2;have HL1:=aa (sL x y);have HL2:=aa (sL u v);have HC:=aa (pP (y*u) (x*v));obtain⟨R,hR⟩:∃R,R=E8 x y u v:=⟨_,rfl⟩;rw[←hR];have HR:=aa (show R=if ks x y=ks u v then eO (y*u) (x*v)else if ks u v=true then-1 else 1 from hR);clear hR hx hy hu hv;generalize ks x y=l1 at*;generalize ks u v=l2 at*;generalize eO (y*u) (x*v)=c at*;go_enter Tryz.func96,Tryz.ntmps96;go_upto_region 1 with(fail)
 have hm:DB w ((w.alloc (.cells #[.int .i64 x,.int .i64 y] 189)).alloc (.cells #[.int .i64 u,.int .i64 v] 189)) x y u v:=⟨dU _ (cj _ _ _ rfl),cj _ _ _ (by simp),((aT.refl _).alloc _).alloc _⟩;obtain⟨Y1,Y2,Y3,Y4⟩:=xU.s w x y u v;have YN:Nonempty (xU w x y u v):=⟨⟨_,hm.drew⟩⟩;refine au (J:=xU w x y u v) xU.w ⟨_,hm.drew⟩ rfl K9 K9 ?_
 repeat (go_big_quiet_step ((first|((with_reducible refine(HL1.out _).mono ?_);rintro _ w8 ⟨rfl,b8⟩;exact⟨rfl,xU.go _ b8⟩)|((with_reducible refine(HL2.out _).mono ?_);rintro _ w8 ⟨rfl,b8⟩;exact⟨rfl,xU.go _ b8⟩))))
 refine wpQuiet_nil ?_;rintro w9 ⟨d,rfl⟩;have hm9:DB w d.w x y u v:=d.2;clear YN Y1 Y2 Y3 Y4 hm;generalize d.w=w9 at*;obtain⟨⟨x1,x2⟩,_⟩:=aW hm9.a;obtain⟨⟨x3,x4⟩,_⟩:=aW hm9.b;have HM:=aa hm9.below;clear hm9;cases l1<;>cases l2
 ·have hr:R=c:=by rw[HR.out,if_pos rfl]
  clear HR;go_wp2_with fail;refine(HC.out _).mono ?_;rintro _ _ ⟨rfl,rfl⟩;go_wp2_with fail;go_ret;exact⟨by rw[hr];rfl,HM.out⟩
 ·have hr:R= -1:=by rw[HR.out,if_neg (by simp),if_pos rfl]
  clear HR;go_wp2_with fail;refine(HL2.out _).mono ?_;rintro _ w8 ⟨rfl,b8⟩;go_wp2_with fail;go_ret;exact⟨by rw[hr];rfl,HM.out.trans b8⟩
 ·have hr:R=1:=by rw[HR.out,if_neg (by simp),if_neg (by simp)]
  clear HR;go_wp2_with fail;refine(HL2.out _).mono ?_;rintro _ w8 ⟨rfl,b8⟩;go_wp2_with fail;go_ret;exact⟨by rw[hr];rfl,HM.out.trans b8⟩
 ·have hr:R=c:=by rw[HR.out,if_pos rfl]
  clear HR;go_wp2_with fail;refine(HC.out _).mono ?_;rintro _ _ ⟨rfl,rfl⟩;go_wp2_with fail;go_ret;exact⟨by rw[hr];rfl,HM.out⟩
