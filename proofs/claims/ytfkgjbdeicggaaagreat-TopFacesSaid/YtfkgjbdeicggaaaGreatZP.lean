/-
  The closure of object.Valid, walked.
-/
import Derived.Test.YtfkgjbdeicggaaaGreatZO
import Derived.Sort.MapsRangeIn
set_option maxHeartbeats 8000000
set_option maxRecDepth 100000
namespace Go.Proofs.YtfkgjbdeicggaaaGreat
open Go.RowKit Go.Proofs.Px Go.Proofs.Pn Go.Proofs.Pm
abbrev cE(w:World)(b:Nat)(l:List (ByteArray×Value)):Prop:=dV (strKeys Tryz.prog 9 Tryz.underlying9) w b l
def eN(o:Ob)(rv tv:Value):Array Value:=#[.string o.id,.int .i64 o.kind,.int .i64 o.x,.int .i64 o.y,rv,tv]
theorem oR(w:World):(zeroValue 4).run Tryz.prog w= .ok (.bool false) w:=K9
structure DM(w:World)(o:Ob)(rv tv:Value)(bo bm:Nat)(seen:List ByteArray)(last:ByteArray)(W:World):Prop where
 ob:W.heap[bo]? =some (.cells (eN o rv tv) 47 (0,0))
 sb:W.heap[bm+1]? =some (.cells #[.map (some bm)] 166 (0,0))
 lb:W.heap[bm+2]? =some (.cells #[.string last] 9 (0,0))
 ml:∃l,cE W bm l∧(∀x,aJ l x=if dr x seen then some (.bool true)else none)∧l.length≤seen.length
 lo:bo<bm
 new:w.heap.size≤bo
 below:Below w.heap.size w W
theorem wi{l:List (ByteArray×Value)}{seen:List ByteArray}(h:∀x,aJ l x=if dr x seen then some (.bool true)else none)(s:ByteArray)(x:ByteArray):aJ (cR l s (.bool true)) x=if dr x (s::seen)then some (.bool true)else none:=by
 rw[cC,h x,sj];by_cases e:x=s
 ·rw[if_pos e,e,beq_self_eq_true,Bool.true_or,if_pos rfl]
 ·have e2:(s.toList ==x.toList)=false:=beq_eq_false_iff_ne.2 (fun e3=>e (toList_inj.1 e3).symm);rw[if_neg e,e2,Bool.false_or]
theorem mI{w w1 w2:World}{b:Nat}(h:Below w.heap.size w w1)(hb:w.heap.size≤b)(ht:w1.mapTurned w2 b):Below w.heap.size w w2:=by
 have hg:=ht.grown;exact⟨hg.os.trans h.os,hg.tape.trans h.tape,hg.output.trans h.output,Nat.le_trans h.size hg.size,fun i hi=>(hg.block i (Nat.lt_of_lt_of_le hi h.size) (fun e=>by cases e;omega)).trans (h.block i hi)⟩
theorem iO{w w':World}{b i:Nat}{o:Obj}(ht:w.mapTurned w' b)(hi:w.heap[i]? =some o)(hne:i≠b):w'.heap[i]? =some o:=by
 have hg:=ht.grown;exact(hg.block i (lt_of_block hi) (fun e=>hne (by cases e;rfl))).trans hi
theorem A6{W:World}{b:Nat}{a x:Value}{t:TypeId}(h:W.heap[b]? =some (.cells #[a] t (0,0))):(W.setCell ⟨b,0,none⟩ x).heap[b]? =some (.cells #[x] t (0,0)):=by
 obtain⟨hlt,hk⟩:=Array.getElem?_eq_some_iff.1 h;show(W.heap.modify b _)[b]? =_;rw[Array.getElem?_eq_getElem (by simpa using hlt),Array.getElem_modify_self,hk];rfl
theorem sM{W:World}{B b i:Nat}{o:Obj}{v:Value}(h:W.heap[B]? =some o)(hne:B≠b):(W.setCell ⟨b,i,none⟩ v).heap[B]? =some o:=(Below.heap_setCell W ⟨b,i,none⟩ v B hne).trans h
theorem DM.below'{w W W':World}{o:Ob}{rv tv:Value}{bo bm:Nat}{seen:List ByteArray}{last:ByteArray}(h:DM w o rv tv bo bm seen last W)(hb:Below W.heap.size W W'):DM w o rv tv bo bm seen last W':=by
 obtain⟨h1,h2,h3,⟨l,h4,h5⟩,h6,h7,h8⟩:=h;refine⟨ai hb h1,ai hb h2,ai hb h3,⟨l,h4.kept (row:=none) ⟨hb.os,hb.tape,hb.output,hb.size,fun i hi _=>hb.block i hi⟩ (by simp),h5⟩,h6,h7,aq h8 hb⟩
theorem Ci(w:World)(o:Ob)(rv tv:Value)(bo bm:Nat)(seen:List ByteArray)(last s:ByteArray)(W:World)(h:DM w o rv tv bo bm seen last W)(hl:seen.length≤100000)(hs:s.size≤100000):Calls Tryz.prog 82 #[.string s,.pointer (some ⟨bo,0,none⟩),.pointer (some ⟨bm+2,0,none⟩),.pointer (some ⟨bm+1,0,none⟩)] W fun e W'=>e= .returned (.bool (jV o.kind seen last s))∧DM w o rv tv bo bm (s::seen) s W':=by
 have HN:=aa (fun w=>fN s w (Nat.le_trans hs (by unfold maxLen;omega)));have hok:s.size≤maxLen:=Nat.le_trans hs (by unfold maxLen;omega);obtain⟨h1,h2,h3,⟨l,h4,h5,h6⟩,h7,h8,h9⟩:=h;have hlook:=h4.look Tryz.underlying166 oR (x:=s) hok;have e1:(aJ l s).getD (.bool false)= .bool (dr s seen):=by rw[h5];cases dr s seen<;>rfl
 rw[e1]at hlook;change (Instr.lookup 166 (.map (some bm)) (.string s) false).run _ _=_ at hlook;obtain⟨W1,hst,hml,htu⟩:=h4.store Tryz.underlying166 (by unfold maxLen;omega) (x:=s) hok (.bool true);change (Instr.mapUpdate 166 (.map (some bm)) (.string s) (.bool true)).run _ _=_ at hst;have g1:=iO htu h1 O9;have g2:=iO htu h2 O9;have g3:=iO htu h3 O9;have HW:Hid (DM w o rv tv bo bm (s::seen) s (W1.setCell ⟨bm+2,0,none⟩ (.string s))):=
  ⟨sM g1 O9,sM g2 O9,A6 g3,⟨_,hml.setCell (by show bm≠bm+2;omega) _,wi h5 s,by rw[dF];simp only[List.length_cons];split<;>omega⟩,h7,h8,(mI h9 O9 htu).setCell (p:=⟨bm+2,0,none⟩) (by show _≤bm+2;omega) _⟩
 have c1:W.cell? ⟨bo,1,none⟩=some (.int .i64 o.kind):=cell_of_row W _ 1 _ _ _ h1;have c2:=(cD h2).1;have c3:=(cD h3).1;have c4:=(cD g3).1;have c5:=(cD g3).2;obtain⟨R,hR⟩:∃R,jV o.kind seen last s=R:=⟨_,rfl⟩;rw[hR];have HR:=aa hR;clear h1 h2 h3 h4 h5 h6 h9 e1 hml htu g1 g2 g3 hR;have fin:∀T:Bool,Hid ((o.kind ==2&&s.toList ==last.toList||o.kind ==3&&dr s seen)=T)→Hid ((T|| !name s.data.toList)=R):=fun T hT=>by
  have:=HR.out;unfold jV at this;rw[hT.out]at this;exact this
 by_cases k2:o.kind=2
 ·rw[k2]at c1;cases hq:(s.toList ==last.toList)with
  |true=>
   (have hq3:s.toList=last.toList:=by simpa using hq);have HZ:=fin true (aa (by rw[k2,hq];rfl));clear fin;go_enter Tryz.func82,Tryz.ntmps82;go_wp2_with fail;go_ret;exact⟨ag HZ.out,HW.out⟩
  |false=>
   (have hq3:¬s.toList=last.toList:=by simpa using hq);have HZ:=fin false (aa (by rw[k2,hq];rfl));clear fin;go_enter Tryz.func82,Tryz.ntmps82;go_wp2_with fail;refine(HN.out _).mono ?_;rintro _ W2 ⟨rfl,b2⟩;have HW2:=aa (HW.out.below' b2);clear HW;go_wp2_with fail;go_ret;exact⟨ag HZ.out,HW2.out⟩
 ·have k2b:(o.kind ==2)=false:=beq_eq_false_iff_ne.2 k2;by_cases k3:o.kind=3
  ·rw[k3]at c1;cases hq:dr s seen with
   |true=>
    rw[hq]at hlook;have HZ:=fin true (aa (by rw[k2b,k3,hq];rfl));clear fin;go_enter Tryz.func82,Tryz.ntmps82;go_wp2_with fail;go_ret;exact⟨ag HZ.out,HW.out⟩
   |false=>
    rw[hq]at hlook;have HZ:=fin false (aa (by rw[k2b,k3,hq];rfl));clear fin;go_enter Tryz.func82,Tryz.ntmps82;go_wp2_with fail;refine(HN.out _).mono ?_;rintro _ W2 ⟨rfl,b2⟩;have HW2:=aa (HW.out.below' b2);clear HW;go_wp2_with fail;go_ret;exact⟨ag HZ.out,HW2.out⟩
  ·have k3b:(o.kind ==3)=false:=beq_eq_false_iff_ne.2 k3;have HZ:=fin false (aa (by rw[k2b,k3b];rfl));clear fin;go_enter Tryz.func82,Tryz.ntmps82;go_wp2_with fail;refine(HN.out _).mono ?_;rintro _ W2 ⟨rfl,b2⟩;have HW2:=aa (HW.out.below' b2);clear HW;go_wp2_with fail;go_ret;exact⟨ag HZ.out,HW2.out⟩
theorem A7(l:List ByteArray)(k:Nat)(h:k<l.length):l.drop k=l[k]::l.drop (k+1):=List.drop_eq_getElem_cons h
theorem yR(w:World)(o:Ob)(rv tv:Value)(bo bm:Nat)(l:List ByteArray)(W:World)(hv:ff w rv l)(hl:l.length≤100000)(hs:∀s∈l,s.size≤100000)(h:DM w o rv tv bo bm [] ⟨#[]⟩ W):Calls Tryz.prog 130 #[rv,.func (.func 82) #[] #[.pointer (some ⟨bo,0,none⟩),.pointer (some ⟨bm+2,0,none⟩),.pointer (some ⟨bm+1,0,none⟩)]] W fun e W'=>∃r:Int,e= .returned (.int .i64 r)∧decide (0≤r)= !dX o.kind [] ⟨#[]⟩ l∧∃seen last,DM w o rv tv bo bm seen last W':=by
 obtain⟨A,c,rfl,_,hA⟩:=hv;have HA:=aa hA;have HS:=aa hs;obtain⟨R,hR⟩:∃R,dX o.kind [] ⟨#[]⟩ l=R:=⟨_,rfl⟩;rw[hR];have HR:=aa hR;have H0:=aa h;clear hA hs hR h;go_enter Tryz.func130,Tryz.ntmps130;go_wp2_with fail;go_loopw [8] (fun i wr=>∃(k:Nat)(seen:List ByteArray)(last:ByteArray),k≤l.length∧i= .int .i64 k∧Hid (seen.length=k)∧Hid (DM w o (.slice A l.length c) tv bo bm seen last wr)∧Hid (dX o.kind seen last (l.drop k)=R)) (fun i _=>l.length-(intOf i).toNat)
 case atStart=>exact⟨0,[],⟨#[]⟩,Nat.zero_le _,rfl,rfl,H0,HR⟩
 case round=>
  obtain⟨k,seen,last,hk,rfl,hsl,hw,hr⟩:=hrel;by_cases hlt:k<l.length
  ·obtain⟨g,off,rfl,hg,hp⟩:=HA.out.resolve_left (by rintro rfl;simp at hlt);have c1:=(hp.below hg hw.out.below) k _ (List.getElem?_eq_getElem hlt);have hr2:=hr.out;rw[A7 l k hlt,dX]at hr2;have hsz:=HS.out _ (List.getElem_mem hlt);generalize l[k]=x at*;have HX:=aa (Ci w o _ tv bo bm seen last x wr hw.out (by rw[hsl.out];omega) hsz);have k0:(0:Int)≤k:=O9;have k1:(k:Int)<l.length:=O9;have HL:=aa hlt;have HM:=aa (show l.length-(k+1)<l.length-k from by omega);have HSL:=aa hsl.out;clear hr hlt hp hw hsl
   cases hb:jV o.kind seen last x with
   |true=>
    rw[hb]at hr2 HX;have HR2:=aa hr2;clear hr2 hb;go_wp2_with fail;refine HX.out.mono ?_;rintro _ w2 ⟨rfl,h2⟩;have HW2:=aa h2;clear h2 HX;go_wp2_with fail;go_ret;refine⟨_,rfl,?_,_,_,HW2.out⟩;rw[←HR2.out];simp
   |false=>
    rw[hb]at hr2 HX;have HR2:=aa hr2;clear hr2 hb;go_wp2_with fail;refine HX.out.mono ?_;rintro _ w2 ⟨rfl,h2⟩;have HW2:=aa h2;clear h2 HX;go_wp2_with fail;refine⟨⟨k+1,x::seen,x,HL.out,by go_num,aa (by simp[HSL.out]),HW2,aa (by simpa using HR2.out)⟩,?_⟩;have:=HM.out;simp[intOf];omega
  ·(have hz:R=true:=by rw[←hr.out,List.drop_eq_nil_of_le O9];rfl);have HZ:=aa hz;have HW2:=aa hw.out;clear hr hz hw;go_wp2_with fail;go_ret;exact⟨_,rfl,by rw[HZ.out];rfl,_,_,HW2.out⟩
theorem rC(w:World)(o:Ob)(rv tv:Value)(bo bm:Nat)(l:List ByteArray)(W:World)(hv:ff w rv l)(hl:l.length≤100000)(hs:∀s∈l,s.size≤100000)(h:DM w o rv tv bo bm [] ⟨#[]⟩ W):Calls Tryz.prog 83 #[rv,.func (.func 82) #[] #[.pointer (some ⟨bo,0,none⟩),.pointer (some ⟨bm+2,0,none⟩),.pointer (some ⟨bm+1,0,none⟩)]] W fun e W'=>e= .returned (.bool (!dX o.kind [] ⟨#[]⟩ l))∧∃seen last,DM w o rv tv bo bm seen last W':=by
 have HI:=aa (yR w o rv tv bo bm l W hv hl hs h);clear hv hs h;obtain⟨R,hR⟩:∃R,dX o.kind [] ⟨#[]⟩ l=R:=⟨_,rfl⟩;rw[hR]at HI ⊢;clear hR;go_enter Tryz.func83,Tryz.ntmps83;go_wp2_with fail;refine HI.out.mono ?_;rintro _ w2 ⟨r,rfl,hr,hw⟩;have HR:=aa hr;have HW:=aa hw;clear hr hw HI;go_wp2_with fail;go_ret;refine⟨ag ?_,HW.out⟩;rw[←HR.out]
attribute [local go_sem] run_makeMap
structure OB(w:World)(o:Ob)(rv tv:Value)(wx:World):Prop where
 box:wx.heap[w.heap.size]? =some (.cells (eN o rv tv) 47 (0,0))
 below:Below w.heap.size w wx
theorem OB.lift{w wx wy:World}{o:Ob}{rv tv:Value}(h:OB w o rv tv wx)(hb:Below wx.heap.size wx wy):OB w o rv tv wy:=⟨ai hb h.box,aq h.below hb⟩
theorem OB.drew{w wx:World}{o:Ob}{rv tv:Value}(h:OB w o rv tv wx):OB w o rv tv wx.drew:=⟨h.box,h.below.drew⟩
theorem OB.cells{w wx:World}{o:Ob}{rv tv:Value}(h:OB w o rv tv wx):wx.cell? ⟨w.heap.size,0,none⟩=some (.string o.id)∧wx.cell? ⟨w.heap.size,1,none⟩=some (.int .i64 o.kind)∧wx.cell? ⟨w.heap.size,2,none⟩=some (.int .i64 o.x)∧wx.cell? ⟨w.heap.size,3,none⟩=some (.int .i64 o.y)∧wx.cell? ⟨w.heap.size,4,none⟩=some rv∧wx.cell? ⟨w.heap.size,5,none⟩=some tv:=
 ⟨cell_of_row wx _ 0 _ _ _ h.box,cell_of_row wx _ 1 _ _ _ h.box,cell_of_row wx _ 2 _ _ _ h.box,cell_of_row wx _ 3 _ _ _ h.box,cell_of_row wx _ 4 _ _ _ h.box,cell_of_row wx _ 5 _ _ _ h.box⟩
def eZ(w:World)(o:Ob)(rv tv:Value):Type:= {wx:World//OB w o rv tv wx}
def eZ.w{w:World}{o:Ob}{rv tv:Value}(u:eZ w o rv tv):World:=u.1
theorem eZ.go{w:World}{o:Ob}{rv tv:Value}(u:eZ w o rv tv){w8:World}(hb:Below u.w.heap.size u.w w8):∃u':eZ w o rv tv,w8=u'.w:=⟨⟨w8,u.2.lift hb⟩,rfl⟩
theorem jI(k:Int)(h1:1≤k)(h5:k≤5):(km k).toList.isEmpty=false:=by
 have:k=1∨k=2∨k=3∨k=4∨k=5:=O9;rcases this with rfl|rfl|rfl|rfl|rfl<;>decide+kernel
theorem wj(o:Ob)(rv tv:Value)(w:World)(hr:ff w rv o.refs)(ht:qO w tv o.tags)(ho:BW o)(h:o.kind<1∨5<o.kind):Calls Tryz.prog 28 #[.agg (eN o rv tv)] w fun e w'=>e= .returned (.bool false)∧Below w.heap.size w w':=by
 obtain⟨ho1,ho2,ho3,ho4,ho5⟩:=ho;have HN:=aa (fun w=>fN o.id w (Nat.le_trans ho1 (by unfold maxLen;omega)));have HV:=aa (fun(u:eZ w o rv tv)=>gI o.tags tv u.w (ht.below u.2.below) ho4 ho5);have HW:=aa (fun w=>im o.kind w);rw[ik _ h]at HW;have HL:=HN;clear ho1 ho3 ho4 ho5;obtain⟨A,c,rfl,_,hA⟩:=hr;obtain⟨A2,c2,rfl,_⟩:=ht;unfold eN;obtain⟨oid,k,x,y,refs,tags⟩:=o;simp only at*;go_enter Tryz.func28,Tryz.ntmps28;go_wp2_with fail;obtain⟨O,hO⟩:∃O:Ob,O=⟨oid,k,x,y,refs,tags⟩:=⟨_,rfl⟩
 have hb0:OB w O (.slice A refs.length c) (.slice A2 tags.length c2) (w.alloc (.cells #[.string oid,.int .i64 k,.int .i64 x,.int .i64 y,.slice A refs.length c,.slice A2 tags.length c2] 47)):=⟨by rw[hO];exact heap_alloc_new _ _,(Below.refl _ _).alloc (Nat.le_refl _) _⟩;have Y1:∀u:eZ w O (.slice A refs.length c) (.slice A2 tags.length c2),u.w.cell? ⟨w.heap.size,0,none⟩=some (.string oid):=fun u=>(show u.w.cell? _=_ from u.2.cells.1).trans (congrArg (fun o:Ob=>some (Value.string o.id)) hO)
 have Y2:∀u:eZ w O (.slice A refs.length c) (.slice A2 tags.length c2),u.w.cell? ⟨w.heap.size,1,none⟩=some (.int .i64 k):=fun u=>(show u.w.cell? _=_ from u.2.cells.2.1).trans (congrArg (fun o:Ob=>some (Value.int .i64 o.kind)) hO);have Y3:∀u:eZ w O (.slice A refs.length c) (.slice A2 tags.length c2),u.w.cell? ⟨w.heap.size,4,none⟩=some (.slice A refs.length c):=fun u=>u.2.cells.2.2.2.2.1
 have Y4:∀u:eZ w O (.slice A refs.length c) (.slice A2 tags.length c2),u.w.cell? ⟨w.heap.size,5,none⟩=some (.slice A2 tags.length c2):=fun u=>u.2.cells.2.2.2.2.2;have YN:Nonempty (eZ w O (.slice A refs.length c) (.slice A2 tags.length c2)):=⟨⟨_,hb0.drew⟩⟩;rw[←hO]at HV;have HO:=aa hO;clear hO;refine au (J:=eZ w O (.slice A refs.length c) (.slice A2 tags.length c2)) eZ.w ⟨_,hb0.drew⟩ rfl K9 K9 ?_
 repeat (go_big_quiet_step ((first|((with_reducible refine(HW.out _).mono ?_);rintro _ w8 ⟨rfl,b8⟩;exact⟨rfl,eZ.go _ b8⟩)|((with_reducible refine(HN.out _).mono ?_);rintro _ w8 ⟨rfl,b8⟩;exact⟨rfl,eZ.go _ b8⟩)|((with_reducible refine(HV.out _).mono ?_);rintro _ w8 ⟨rfl,b8⟩;exact⟨rfl,eZ.go _ b8⟩)|((with_reducible refine(HL.out _).mono ?_);rintro _ w8 ⟨rfl,rfl⟩;exact⟨rfl,⟨_,rfl⟩⟩))))
 refine wpQuiet_nil ?_;rintro w9 ⟨u,rfl⟩;have HB:=aa u.2.below;go_wp2_with fail;go_ret;exact⟨rfl,HB.out⟩
theorem wC(o:Ob)(rv tv:Value)(w:World)(hr:ff w rv o.refs)(ht:qO w tv o.tags)(ho:BW o)(h1:1≤o.kind)(h5:o.kind≤5)(hn:name o.id.data.toList=false):Calls Tryz.prog 28 #[.agg (eN o rv tv)] w fun e w'=>e= .returned (.bool false)∧Below w.heap.size w w':=by
 obtain⟨ho1,ho2,ho3,ho4,ho5⟩:=ho;have HN:=aa (fun w=>fN o.id w (Nat.le_trans ho1 (by unfold maxLen;omega)));have HV:=aa (fun(u:eZ w o rv tv)=>gI o.tags tv u.w (ht.below u.2.below) ho4 ho5);have HW:=aa (fun w=>im o.kind w);have hwn:=jI _ h1 h5;rw[hn]at HN;have HL:=HN;clear hn;clear ho1 ho3 ho4 ho5;obtain⟨A,c,rfl,_,hA⟩:=hr;obtain⟨A2,c2,rfl,_⟩:=ht;unfold eN;obtain⟨oid,k,x,y,refs,tags⟩:=o;simp only at*;go_enter Tryz.func28,Tryz.ntmps28;go_wp2_with fail;obtain⟨O,hO⟩:∃O:Ob,O=⟨oid,k,x,y,refs,tags⟩:=⟨_,rfl⟩
 have hb0:OB w O (.slice A refs.length c) (.slice A2 tags.length c2) (w.alloc (.cells #[.string oid,.int .i64 k,.int .i64 x,.int .i64 y,.slice A refs.length c,.slice A2 tags.length c2] 47)):=⟨by rw[hO];exact heap_alloc_new _ _,(Below.refl _ _).alloc (Nat.le_refl _) _⟩;have Y1:∀u:eZ w O (.slice A refs.length c) (.slice A2 tags.length c2),u.w.cell? ⟨w.heap.size,0,none⟩=some (.string oid):=fun u=>(show u.w.cell? _=_ from u.2.cells.1).trans (congrArg (fun o:Ob=>some (Value.string o.id)) hO)
 have Y2:∀u:eZ w O (.slice A refs.length c) (.slice A2 tags.length c2),u.w.cell? ⟨w.heap.size,1,none⟩=some (.int .i64 k):=fun u=>(show u.w.cell? _=_ from u.2.cells.2.1).trans (congrArg (fun o:Ob=>some (Value.int .i64 o.kind)) hO);have Y3:∀u:eZ w O (.slice A refs.length c) (.slice A2 tags.length c2),u.w.cell? ⟨w.heap.size,4,none⟩=some (.slice A refs.length c):=fun u=>u.2.cells.2.2.2.2.1
 have Y4:∀u:eZ w O (.slice A refs.length c) (.slice A2 tags.length c2),u.w.cell? ⟨w.heap.size,5,none⟩=some (.slice A2 tags.length c2):=fun u=>u.2.cells.2.2.2.2.2;have YN:Nonempty (eZ w O (.slice A refs.length c) (.slice A2 tags.length c2)):=⟨⟨_,hb0.drew⟩⟩;rw[←hO]at HV;have HO:=aa hO;clear hO;refine au (J:=eZ w O (.slice A refs.length c) (.slice A2 tags.length c2)) eZ.w ⟨_,hb0.drew⟩ rfl K9 K9 ?_
 repeat (go_big_quiet_step ((first|((with_reducible refine(HW.out _).mono ?_);rintro _ w8 ⟨rfl,b8⟩;exact⟨rfl,eZ.go _ b8⟩)|((with_reducible refine(HN.out _).mono ?_);rintro _ w8 ⟨rfl,b8⟩;exact⟨rfl,eZ.go _ b8⟩)|((with_reducible refine(HV.out _).mono ?_);rintro _ w8 ⟨rfl,b8⟩;exact⟨rfl,eZ.go _ b8⟩)|((with_reducible refine(HL.out _).mono ?_);rintro _ w8 ⟨rfl,rfl⟩;exact⟨rfl,⟨_,rfl⟩⟩))))
 refine wpQuiet_nil ?_;rintro w9 ⟨u,rfl⟩;have HB:=aa u.2.below;go_wp2_with fail;go_ret;exact⟨rfl,HB.out⟩
theorem wD(o:Ob)(rv tv:Value)(w:World)(hr:ff w rv o.refs)(ht:qO w tv o.tags)(ho:BW o)(h1:1≤o.kind)(h5:o.kind≤5)(hn:name o.id.data.toList=true)(hv:fV o.tags=false):Calls Tryz.prog 28 #[.agg (eN o rv tv)] w fun e w'=>e= .returned (.bool false)∧Below w.heap.size w w':=by
 obtain⟨ho1,ho2,ho3,ho4,ho5⟩:=ho;have HN:=aa (fun w=>fN o.id w (Nat.le_trans ho1 (by unfold maxLen;omega)));have HV:=aa (fun(u:eZ w o rv tv)=>gI o.tags tv u.w (ht.below u.2.below) ho4 ho5);have HW:=aa (fun w=>im o.kind w);have hwn:=jI _ h1 h5;rw[hn]at HN;rw[hv]at HV;have HL:=HN;clear hn hv;clear ho1 ho3 ho4 ho5;obtain⟨A,c,rfl,_,hA⟩:=hr;obtain⟨A2,c2,rfl,_⟩:=ht;unfold eN;obtain⟨oid,k,x,y,refs,tags⟩:=o;simp only at*;go_enter Tryz.func28,Tryz.ntmps28;go_wp2_with fail
 obtain⟨O,hO⟩:∃O:Ob,O=⟨oid,k,x,y,refs,tags⟩:=⟨_,rfl⟩;have hb0:OB w O (.slice A refs.length c) (.slice A2 tags.length c2) (w.alloc (.cells #[.string oid,.int .i64 k,.int .i64 x,.int .i64 y,.slice A refs.length c,.slice A2 tags.length c2] 47)):=⟨by rw[hO];exact heap_alloc_new _ _,(Below.refl _ _).alloc (Nat.le_refl _) _⟩
 have Y1:∀u:eZ w O (.slice A refs.length c) (.slice A2 tags.length c2),u.w.cell? ⟨w.heap.size,0,none⟩=some (.string oid):=fun u=>(show u.w.cell? _=_ from u.2.cells.1).trans (congrArg (fun o:Ob=>some (Value.string o.id)) hO);have Y2:∀u:eZ w O (.slice A refs.length c) (.slice A2 tags.length c2),u.w.cell? ⟨w.heap.size,1,none⟩=some (.int .i64 k):=fun u=>(show u.w.cell? _=_ from u.2.cells.2.1).trans (congrArg (fun o:Ob=>some (Value.int .i64 o.kind)) hO)
 have Y3:∀u:eZ w O (.slice A refs.length c) (.slice A2 tags.length c2),u.w.cell? ⟨w.heap.size,4,none⟩=some (.slice A refs.length c):=fun u=>u.2.cells.2.2.2.2.1;have Y4:∀u:eZ w O (.slice A refs.length c) (.slice A2 tags.length c2),u.w.cell? ⟨w.heap.size,5,none⟩=some (.slice A2 tags.length c2):=fun u=>u.2.cells.2.2.2.2.2;have YN:Nonempty (eZ w O (.slice A refs.length c) (.slice A2 tags.length c2)):=⟨⟨_,hb0.drew⟩⟩;rw[←hO]at HV;have HO:=aa hO;clear hO
 refine au (J:=eZ w O (.slice A refs.length c) (.slice A2 tags.length c2)) eZ.w ⟨_,hb0.drew⟩ rfl K9 K9 ?_
 repeat (go_big_quiet_step ((first|((with_reducible refine(HW.out _).mono ?_);rintro _ w8 ⟨rfl,b8⟩;exact⟨rfl,eZ.go _ b8⟩)|((with_reducible refine(HN.out _).mono ?_);rintro _ w8 ⟨rfl,b8⟩;exact⟨rfl,eZ.go _ b8⟩)|((with_reducible refine(HV.out _).mono ?_);rintro _ w8 ⟨rfl,b8⟩;exact⟨rfl,eZ.go _ b8⟩)|((with_reducible refine(HL.out _).mono ?_);rintro _ w8 ⟨rfl,rfl⟩;exact⟨rfl,⟨_,rfl⟩⟩))))
 refine wpQuiet_nil ?_;rintro w9 ⟨u,rfl⟩;have HB:=aa u.2.below;go_wp2_with fail;go_ret;exact⟨rfl,HB.out⟩
theorem wF(o:Ob)(rv tv:Value)(w:World)(hr:ff w rv o.refs)(ht:qO w tv o.tags)(ho:BW o)(h1:1≤o.kind)(h5:o.kind≤5)(hn:name o.id.data.toList=true)(hv:fV o.tags=true)(hz:o.refs.length<eH o.kind):Calls Tryz.prog 28 #[.agg (eN o rv tv)] w fun e w'=>e= .returned (.bool false)∧Below w.heap.size w w':=by
 obtain⟨ho1,ho2,ho3,ho4,ho5⟩:=ho;have HN:=aa (fun w=>fN o.id w (Nat.le_trans ho1 (by unfold maxLen;omega)));have HV:=aa (fun(u:eZ w o rv tv)=>gI o.tags tv u.w (ht.below u.2.below) ho4 ho5);have HW:=aa (fun w=>im o.kind w);have hwn:=jI _ h1 h5;rw[hn]at HN;rw[hv]at HV;have HL:=aa (fun w=>oQ o.kind h1 h5 w);have hz2:(o.refs.length:Int)<eH o.kind:=O9;clear hn hv hz;clear ho1 ho3 ho4 ho5;obtain⟨A,c,rfl,_,hA⟩:=hr;obtain⟨A2,c2,rfl,_⟩:=ht;unfold eN;obtain⟨oid,k,x,y,refs,tags⟩:=o;simp only at*
 go_enter Tryz.func28,Tryz.ntmps28;go_wp2_with fail;obtain⟨O,hO⟩:∃O:Ob,O=⟨oid,k,x,y,refs,tags⟩:=⟨_,rfl⟩;have hb0:OB w O (.slice A refs.length c) (.slice A2 tags.length c2) (w.alloc (.cells #[.string oid,.int .i64 k,.int .i64 x,.int .i64 y,.slice A refs.length c,.slice A2 tags.length c2] 47)):=⟨by rw[hO];exact heap_alloc_new _ _,(Below.refl _ _).alloc (Nat.le_refl _) _⟩
 have Y1:∀u:eZ w O (.slice A refs.length c) (.slice A2 tags.length c2),u.w.cell? ⟨w.heap.size,0,none⟩=some (.string oid):=fun u=>(show u.w.cell? _=_ from u.2.cells.1).trans (congrArg (fun o:Ob=>some (Value.string o.id)) hO);have Y2:∀u:eZ w O (.slice A refs.length c) (.slice A2 tags.length c2),u.w.cell? ⟨w.heap.size,1,none⟩=some (.int .i64 k):=fun u=>(show u.w.cell? _=_ from u.2.cells.2.1).trans (congrArg (fun o:Ob=>some (Value.int .i64 o.kind)) hO)
 have Y3:∀u:eZ w O (.slice A refs.length c) (.slice A2 tags.length c2),u.w.cell? ⟨w.heap.size,4,none⟩=some (.slice A refs.length c):=fun u=>u.2.cells.2.2.2.2.1;have Y4:∀u:eZ w O (.slice A refs.length c) (.slice A2 tags.length c2),u.w.cell? ⟨w.heap.size,5,none⟩=some (.slice A2 tags.length c2):=fun u=>u.2.cells.2.2.2.2.2;have YN:Nonempty (eZ w O (.slice A refs.length c) (.slice A2 tags.length c2)):=⟨⟨_,hb0.drew⟩⟩;rw[←hO]at HV;have HO:=aa hO;clear hO
 refine au (J:=eZ w O (.slice A refs.length c) (.slice A2 tags.length c2)) eZ.w ⟨_,hb0.drew⟩ rfl K9 K9 ?_
 repeat (go_big_quiet_step ((first|((with_reducible refine(HW.out _).mono ?_);rintro _ w8 ⟨rfl,b8⟩;exact⟨rfl,eZ.go _ b8⟩)|((with_reducible refine(HN.out _).mono ?_);rintro _ w8 ⟨rfl,b8⟩;exact⟨rfl,eZ.go _ b8⟩)|((with_reducible refine(HV.out _).mono ?_);rintro _ w8 ⟨rfl,b8⟩;exact⟨rfl,eZ.go _ b8⟩)|((with_reducible refine(HL.out _).mono ?_);rintro _ w8 ⟨rfl,rfl⟩;exact⟨rfl,⟨_,rfl⟩⟩))))
 refine wpQuiet_nil ?_;rintro w9 ⟨u,rfl⟩;have HB:=aa u.2.below;go_wp2_with fail;go_ret;exact⟨rfl,HB.out⟩
theorem wH(o:Ob)(rv tv:Value)(w:World)(hr:ff w rv o.refs)(ht:qO w tv o.tags)(ho:BW o)(h1:1≤o.kind)(h5:o.kind≤5)(hn:name o.id.data.toList=true)(hv:fV o.tags=true)(hz:eH o.kind≤o.refs.length)(hm:2000<o.refs.length):Calls Tryz.prog 28 #[.agg (eN o rv tv)] w fun e w'=>e= .returned (.bool false)∧Below w.heap.size w w':=by
 obtain⟨ho1,ho2,ho3,ho4,ho5⟩:=ho;have HN:=aa (fun w=>fN o.id w (Nat.le_trans ho1 (by unfold maxLen;omega)));have HV:=aa (fun(u:eZ w o rv tv)=>gI o.tags tv u.w (ht.below u.2.below) ho4 ho5);have HW:=aa (fun w=>im o.kind w);have hwn:=jI _ h1 h5;rw[hn]at HN;rw[hv]at HV;have HL:=aa (fun w=>oQ o.kind h1 h5 w);have hz4:decide (o.refs.length<eH o.kind)=false:=decide_eq_false O9;have hz3:(2000:Int)<o.refs.length:=O9;clear hn hv hz hm;clear ho1 ho3 ho4 ho5;obtain⟨A,c,rfl,_,hA⟩:=hr;obtain⟨A2,c2,rfl,_⟩:=ht;unfold eN
 obtain⟨oid,k,x,y,refs,tags⟩:=o;simp only at*;go_enter Tryz.func28,Tryz.ntmps28;go_wp2_with fail;obtain⟨O,hO⟩:∃O:Ob,O=⟨oid,k,x,y,refs,tags⟩:=⟨_,rfl⟩;have hb0:OB w O (.slice A refs.length c) (.slice A2 tags.length c2) (w.alloc (.cells #[.string oid,.int .i64 k,.int .i64 x,.int .i64 y,.slice A refs.length c,.slice A2 tags.length c2] 47)):=⟨by rw[hO];exact heap_alloc_new _ _,(Below.refl _ _).alloc (Nat.le_refl _) _⟩
 have Y1:∀u:eZ w O (.slice A refs.length c) (.slice A2 tags.length c2),u.w.cell? ⟨w.heap.size,0,none⟩=some (.string oid):=fun u=>(show u.w.cell? _=_ from u.2.cells.1).trans (congrArg (fun o:Ob=>some (Value.string o.id)) hO);have Y2:∀u:eZ w O (.slice A refs.length c) (.slice A2 tags.length c2),u.w.cell? ⟨w.heap.size,1,none⟩=some (.int .i64 k):=fun u=>(show u.w.cell? _=_ from u.2.cells.2.1).trans (congrArg (fun o:Ob=>some (Value.int .i64 o.kind)) hO)
 have Y3:∀u:eZ w O (.slice A refs.length c) (.slice A2 tags.length c2),u.w.cell? ⟨w.heap.size,4,none⟩=some (.slice A refs.length c):=fun u=>u.2.cells.2.2.2.2.1;have Y4:∀u:eZ w O (.slice A refs.length c) (.slice A2 tags.length c2),u.w.cell? ⟨w.heap.size,5,none⟩=some (.slice A2 tags.length c2):=fun u=>u.2.cells.2.2.2.2.2;have YN:Nonempty (eZ w O (.slice A refs.length c) (.slice A2 tags.length c2)):=⟨⟨_,hb0.drew⟩⟩;rw[←hO]at HV;have HO:=aa hO;clear hO
 refine au (J:=eZ w O (.slice A refs.length c) (.slice A2 tags.length c2)) eZ.w ⟨_,hb0.drew⟩ rfl K9 K9 ?_
 repeat (go_big_quiet_step ((first|((with_reducible refine(HW.out _).mono ?_);rintro _ w8 ⟨rfl,b8⟩;exact⟨rfl,eZ.go _ b8⟩)|((with_reducible refine(HN.out _).mono ?_);rintro _ w8 ⟨rfl,b8⟩;exact⟨rfl,eZ.go _ b8⟩)|((with_reducible refine(HV.out _).mono ?_);rintro _ w8 ⟨rfl,b8⟩;exact⟨rfl,eZ.go _ b8⟩)|((with_reducible refine(HL.out _).mono ?_);rintro _ w8 ⟨rfl,rfl⟩;exact⟨rfl,⟨_,rfl⟩⟩))))
 refine wpQuiet_nil ?_;rintro w9 ⟨u,rfl⟩;have HB:=aa u.2.below;go_wp2_with fail;go_ret;exact⟨rfl,HB.out⟩
theorem wI(o:Ob)(rv tv:Value)(w:World)(hr:ff w rv o.refs)(ht:qO w tv o.tags)(ho:BW o)(h1:1≤o.kind)(h5:o.kind≤5)(hn:name o.id.data.toList=true)(hv:fV o.tags=true)(hz:eH o.kind≤o.refs.length)(hm:o.refs.length≤2000):Calls Tryz.prog 28 #[.agg (eN o rv tv)] w fun e w'=>e= .returned (.bool (dX o.kind [] ⟨#[]⟩ o.refs&&mh o))∧Below w.heap.size w w':=by
 obtain⟨ho1,ho2,ho3,ho4,ho5⟩:=ho;have HN:=aa (fun w=>fN o.id w (Nat.le_trans ho1 (by unfold maxLen;omega)));have HV:=aa (fun(u:eZ w o rv tv)=>gI o.tags tv u.w (ht.below u.2.below) ho4 ho5);have HW:=aa (fun w=>im o.kind w);have hwn:=jI _ h1 h5;rw[hn]at HN;rw[hv]at HV;have HL:=aa (fun w=>oQ o.kind h1 h5 w);have HT:=aa (And.intro hr ho3);have HR0:=aa hm;obtain⟨R,hR⟩:∃R,(dX o.kind [] ⟨#[]⟩ o.refs&&mh o)=R:=⟨_,rfl⟩;rw[hR];have HR:=aa hR;have hz2:¬(o.refs.length:Int)<eH o.kind:=O9
 have hz4:decide (o.refs.length<eH o.kind)=false:=decide_eq_false O9;have hz3:¬(2000:Int)<o.refs.length:=O9;clear hn hv hz hm hR;clear ho1 ho3 ho4 ho5;obtain⟨A,c,rfl,_,hA⟩:=hr;obtain⟨A2,c2,rfl,_⟩:=ht;unfold eN;obtain⟨oid,k,x,y,refs,tags⟩:=o;simp only at*;go_enter Tryz.func28,Tryz.ntmps28;go_wp2_with fail;obtain⟨O,hO⟩:∃O:Ob,O=⟨oid,k,x,y,refs,tags⟩:=⟨_,rfl⟩
 have hb0:OB w O (.slice A refs.length c) (.slice A2 tags.length c2) (w.alloc (.cells #[.string oid,.int .i64 k,.int .i64 x,.int .i64 y,.slice A refs.length c,.slice A2 tags.length c2] 47)):=⟨by rw[hO];exact heap_alloc_new _ _,(Below.refl _ _).alloc (Nat.le_refl _) _⟩;have Y1:∀u:eZ w O (.slice A refs.length c) (.slice A2 tags.length c2),u.w.cell? ⟨w.heap.size,0,none⟩=some (.string oid):=fun u=>(show u.w.cell? _=_ from u.2.cells.1).trans (congrArg (fun o:Ob=>some (Value.string o.id)) hO)
 have Y2:∀u:eZ w O (.slice A refs.length c) (.slice A2 tags.length c2),u.w.cell? ⟨w.heap.size,1,none⟩=some (.int .i64 k):=fun u=>(show u.w.cell? _=_ from u.2.cells.2.1).trans (congrArg (fun o:Ob=>some (Value.int .i64 o.kind)) hO);have Y3:∀u:eZ w O (.slice A refs.length c) (.slice A2 tags.length c2),u.w.cell? ⟨w.heap.size,4,none⟩=some (.slice A refs.length c):=fun u=>u.2.cells.2.2.2.2.1
 have Y4:∀u:eZ w O (.slice A refs.length c) (.slice A2 tags.length c2),u.w.cell? ⟨w.heap.size,5,none⟩=some (.slice A2 tags.length c2):=fun u=>u.2.cells.2.2.2.2.2;have YN:Nonempty (eZ w O (.slice A refs.length c) (.slice A2 tags.length c2)):=⟨⟨_,hb0.drew⟩⟩;rw[←hO]at HV;have HO:=aa hO;clear hO;refine au (J:=eZ w O (.slice A refs.length c) (.slice A2 tags.length c2)) eZ.w ⟨_,hb0.drew⟩ rfl K9 K9 ?_
 repeat (go_big_quiet_step ((first|((with_reducible refine(HW.out _).mono ?_);rintro _ w8 ⟨rfl,b8⟩;exact⟨rfl,eZ.go _ b8⟩)|((with_reducible refine(HN.out _).mono ?_);rintro _ w8 ⟨rfl,b8⟩;exact⟨rfl,eZ.go _ b8⟩)|((with_reducible refine(HV.out _).mono ?_);rintro _ w8 ⟨rfl,b8⟩;exact⟨rfl,eZ.go _ b8⟩)|((with_reducible refine(HL.out _).mono ?_);rintro _ w8 ⟨rfl,rfl⟩;exact⟨rfl,⟨_,rfl⟩⟩))))
 refine wpQuiet_nil ?_;rintro w9 ⟨u,rfl⟩;have hm9:OB w O (.slice A refs.length c) (.slice A2 tags.length c2) u.w:=u.2;obtain⟨W9,hW9⟩:∃W9,(u.w.alloc (.map #[] 0)).alloc (.cells #[.map (some u.w.heap.size)] 166)=W9:=⟨_,rfl⟩;have hq1:cE (u.w.alloc (.map #[] 0)) u.w.heap.size []:=cK _ _;have hq2:cE W9 u.w.heap.size []:=by rw[←hW9];exact hq1.alloc _
 have hs9:W9.heap.size=u.w.heap.size+2:=by rw[←hW9];simp
 have hq3:W9.heap[u.w.heap.size+1]? =some (.cells #[.map (some u.w.heap.size)] 166 (0,0)):=by
  rw[←hW9];have:=heap_alloc_new (u.w.alloc (.map #[] 0)) (.cells #[.map (some u.w.heap.size)] 166);simpa using this
 have hm10:OB w O (.slice A refs.length c) (.slice A2 tags.length c2) W9:=by rw[←hW9];exact hm9.lift (((Below.refl _ _).alloc (Nat.le_refl _) _).alloc (by simp) _)
 have hlo:w.heap.size<u.w.heap.size:=lt_of_block hm9.box;have hm11:OB w O (.slice A refs.length c) (.slice A2 tags.length c2) (W9.alloc (.cells #[.string ⟨#[]⟩] 9)):=hm10.lift ((Below.refl _ _).alloc (Nat.le_refl _) _);have hwr:DM w O (.slice A refs.length c) (.slice A2 tags.length c2) w.heap.size u.w.heap.size [] ⟨#[]⟩ (W9.alloc (.cells #[.string ⟨#[]⟩] 9)):=
  ⟨hm11.box,ai ((Below.refl _ _).alloc (Nat.le_refl _) _) hq3,by have:=heap_alloc_new W9 (.cells #[.string ⟨#[]⟩] 9);rw[hs9]at this;exact this,⟨[],hq2.alloc _,fun _=>rfl,Nat.le_refl _⟩,hlo,Nat.le_refl _,hm11.below⟩
 have HC:=aa (rC w O (.slice A refs.length c) (.slice A2 tags.length c2) w.heap.size u.w.heap.size refs _ HT.out.1 ho2 HT.out.2 hwr);have hO:=HO.out;have e1:(W9.alloc (.cells #[.string ⟨#[]⟩] 9)).cell? ⟨w.heap.size,4,none⟩=some (.slice A refs.length c):=hm11.cells.2.2.2.2.1;have hRF:O.kind=k:=by rw[hO]
 rw[hRF]at HC;obtain⟨F,hF⟩:∃F,dX k [] ⟨#[]⟩ refs=F:=⟨_,rfl⟩;rw[hF]at HC HR;have HS9:=aa hs9;clear YN Y1 Y2 Y3 Y4 hm9 hq1 hq2 hq3 hlo hm10 hm11 hwr hs9 hRF hO hF;go_wp2_with fail;rw[HS9.out];refine HC.out.mono ?_;rintro _ w7 ⟨rfl,seen,last,hw7⟩;have HW7:=aa hw7.below;have hob:=hw7.ob;rw[HO.out]at hob;have d1:w7.cell? ⟨w.heap.size,1,none⟩=some (.int .i64 k):=cell_of_row w7 _ 1 _ _ _ hob;have d2:w7.cell? ⟨w.heap.size,2,none⟩=some (.int .i64 x):=cell_of_row w7 _ 2 _ _ _ hob
 have d3:w7.cell? ⟨w.heap.size,3,none⟩=some (.int .i64 y):=cell_of_row w7 _ 3 _ _ _ hob;have d4:w7.cell? ⟨w.heap.size,4,none⟩=some (.slice A refs.length c):=cell_of_row w7 _ 4 _ _ _ hob;clear hW9 e1 HC hw7 hob hb0;cases F with
 |false=>
  go_wp2_with fail;go_ret;exact⟨ag (by rw[←HR.out];rfl),HW7.out⟩
 |true=>
  have HR3:Hid (mh ⟨oid,k,x,y,refs,tags⟩=R):=by
   have:=HR.out;rw[Bool.true_and]at this;exact this
  unfold mh at HR3;simp only at HR3;clear HR;by_cases k1:k=1
  ·subst k1;by_cases hl0:refs.length=0
   ·(have hl1:(refs.length:Int)=0:=by omega);have HG:=aa (fun w=>IE x y w);have HZ:Hid (mg x y=R):=by
     have:=HR3.out;rw[if_pos rfl,decide_eq_true hl0,Bool.true_and]at this;exact this
    clear HR3;go_wp2_with fail;refine(HG.out _).mono ?_;rintro _ w6 ⟨rfl,hb6⟩;have HM:=aa (aq HW7.out hb6);clear hb6;go_wp2_with fail;go_ret;exact⟨ag HZ.out,HM.out⟩
   ·(have hl1:¬(refs.length:Int)=0:=by omega);have HZ:Hid (false=R):=by
     have:=HR3.out;rw[if_pos rfl,decide_eq_false hl0,Bool.false_and]at this;exact this
    clear HR3;go_wp2_with fail;go_ret;exact⟨ag HZ.out,HW7.out⟩
  ·by_cases k5:k=5
   ·subst k5;by_cases hl0:refs.length=3
    ·have HZ:Hid (decide (x=0∧y=0)=R):=by
      have:=HR3.out;rw[if_neg O9,if_pos rfl,decide_eq_true hl0,Bool.true_and]at this;exact this
     clear HR3;have hl1:(refs.length:Int)=3:=O9;go_wp2_with fail
     all_goals go_ret
     all_goals refine⟨ag ?_,HW7.out⟩
     all_goals rw[←HZ.out]
     all_goals first|exact(decide_eq_true O9).symm|exact(decide_eq_false O9).symm|(rw[Bool.eq_iff_iff];simp[dO])
    ·(have hl1:¬(refs.length:Int)=3:=by omega);have HZ:Hid (false=R):=by
      have:=HR3.out;rw[if_neg O9,if_pos rfl,decide_eq_false hl0,Bool.false_and]at this;exact this
     clear HR3;go_wp2_with fail;go_ret;exact⟨ag HZ.out,HW7.out⟩
   ·have HZ:Hid (decide (x=0∧y=0)=R):=by
     have:=HR3.out;rw[if_neg k1,if_neg k5]at this;exact this
    clear HR3;go_wp2_with fail
    all_goals go_ret
    all_goals refine⟨ag ?_,HW7.out⟩
    all_goals rw[←HZ.out]
    all_goals first|exact(decide_eq_true O9).symm|exact(decide_eq_false O9).symm|(rw[Bool.eq_iff_iff];simp[dO])
theorem yS(o:Ob)(rv tv:Value)(w:World)(hr:ff w rv o.refs)(ht:qO w tv o.tags)(ho:BW o):Calls Tryz.prog 28 #[.agg (eN o rv tv)] w fun e w'=>e= .returned (.bool (lJ o))∧Below w.heap.size w w':=by
 by_cases h:o.kind<1∨5<o.kind
 ·have e:lJ o=false:=by unfold lJ kO;rw[decide_eq_false O9];simp
  rw[e];exact wj o rv tv w hr ht ho h
 ·have h1:1≤o.kind:=by omega
  have h5:o.kind≤5:=O9;have ek:decide (1≤o.kind∧o.kind≤5)=true:=decide_eq_true ⟨h1,h5⟩;cases hn:name o.id.data.toList with
  |false=>
   (have e:lJ o=false:=by unfold lJ kO;rw[hn];simp);rw[e];exact wC o rv tv w hr ht ho h1 h5 hn
  |true=>
   cases hv:fV o.tags with
   |false=>
    (have e:lJ o=false:=by unfold lJ kO;rw[hv];simp);rw[e];exact wD o rv tv w hr ht ho h1 h5 hn hv
   |true=>
    by_cases hz:eH o.kind≤o.refs.length
    ·by_cases hm:o.refs.length≤2000
     ·(have e:lJ o=(dX o.kind [] ⟨#[]⟩ o.refs&&mh o):=by unfold lJ kO;rw[hn,hv,ek,decide_eq_true hz,decide_eq_true hm];rfl);rw[e];exact wI o rv tv w hr ht ho h1 h5 hn hv hz hm
     ·(have e:lJ o=false:=by unfold lJ kO;rw[decide_eq_false hm];simp);rw[e];exact wH o rv tv w hr ht ho h1 h5 hn hv hz O9
    ·(have e:lJ o=false:=by unfold lJ kO;rw[decide_eq_false hz];simp);rw[e];exact wF o rv tv w hr ht ho h1 h5 hn hv O9
