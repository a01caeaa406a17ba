/-
  border.of, walked; keys of maps that are pairs or points.
-/
import Derived.Test.YtfkgjbdeicggaaaGreatZS
import Derived.Test.YtfkgjbdeicggaaaGreatZW
set_option maxHeartbeats 8000000
set_option maxRecDepth 100000
namespace Go.Proofs.YtfkgjbdeicggaaaGreat
open Go.RowKit Go.Proofs.Px Go.Proofs.Pn Go.Proofs.Pm Go.Proofs.Pg Go.Proofs.Pto
attribute [local go_sem] Oper.semAt_some run_makeMap
theorem wY:(87:Nat)<Tryz.prog.types.size:=of_decide_eq_true K9
theorem fu:WideMaps.KeyLaw Tryz.prog 87:=deep_law_laid ld (m:=3) O9 wY K9 K9
theorem sP:(44:Nat)<Tryz.prog.types.size:=of_decide_eq_true K9
theorem oT:WideMaps.KeyLaw Tryz.prog 44:=deep_law_laid ld (m:=3) O9 sP K9 K9
theorem Be:(98:Nat)<Tryz.prog.types.size:=of_decide_eq_true K9
theorem j7:WideMaps.KeyLaw Tryz.prog 98:=deep_law_laid ld (m:=3) O9 Be K9 K9
theorem j8:Tryz.prog.cellsOf 87=2:=K9
theorem sQ:Tryz.prog.cellsOf 98=2:=K9
theorem pj:Tryz.prog.cellsOf 44=2:=K9
theorem sR:Tryz.prog.cellsOf 3=1:=K9
theorem zi:Tryz.prog.keyType 87=true:=K9
theorem CK:Tryz.prog.keyType 98=true:=K9
theorem wZ:Tryz.prog.keyType 44=true:=K9
theorem iV(a:Pr)(h:iI a):keyOf Tryz.prog 87 (uN a)=some (IQ a):=by
 obtain⟨d,hd⟩:∃d,Tryz.prog.types.size+1=d+2:=⟨Tryz.prog.types.size-1,by have:(87:Nat)<Tryz.prog.types.size:=wY;omega⟩;have hf:a.1.size≤maxLen:=Nat.le_trans h.1 (by unfold maxLen;omega);have ht:a.2.size≤maxLen:=Nat.le_trans h.2 (by unfold maxLen;omega);have hfm:(uN a).formed Tryz.prog 87=true:=by
  simp[uN,Value.formed,Tryz.underlying87,j8]
 unfold keyOf;rw[Tryz.underlying87];simp only;rw[zi,hfm,hd];simp[uN,IQ,Program.keyLits,Tryz.underlying87,Tryz.underlying9,j8,gJ,Value.cells,hf,ht,List.range,List.range.loop]
theorem uv{n:Int}(h0: -4000000000≤n)(h1:n≤4000000000):(Lit.int .i64 n).wf=true:=by
 simp[Lit.wf,IntKind.min,IntKind.max,IntKind.signed,IntKind.bits];omega
theorem sS(a:Pt)(h:nx a):keyOf Tryz.prog 44 (Pm.ptV a)=some (IS a):=by
 obtain⟨d,hd⟩:∃d,Tryz.prog.types.size+1=d+2:=⟨Tryz.prog.types.size-1,by have:(44:Nat)<Tryz.prog.types.size:=sP;omega⟩;have hf:=uv h.1 h.2.1;have ht:=uv h.2.2.1 h.2.2.2;have hfm:(Pm.ptV a).formed Tryz.prog 44=true:=by
  simp[Pm.ptV,Value.formed,Tryz.underlying44,pj]
 unfold keyOf;rw[Tryz.underlying44];simp only;rw[wZ,hfm,hd];simp[Pm.ptV,IS,Program.keyLits,Tryz.underlying44,Tryz.underlying3,pj,sR,Value.cells,hf,ht]
theorem j9(a:Pt)(h:nx a):keyOf Tryz.prog 98 (Pm.ptV a)=some (IS a):=by
 obtain⟨d,hd⟩:∃d,Tryz.prog.types.size+1=d+2:=⟨Tryz.prog.types.size-1,by have:(98:Nat)<Tryz.prog.types.size:=Be;omega⟩;have hf:=uv h.1 h.2.1;have ht:=uv h.2.2.1 h.2.2.2;have hfm:(Pm.ptV a).formed Tryz.prog 98=true:=by
  simp[Pm.ptV,Value.formed,Tryz.underlying98,sQ]
 unfold keyOf;rw[Tryz.underlying98];simp only;rw[CK,hfm,hd];simp[Pm.ptV,IS,Program.keyLits,Tryz.underlying98,Tryz.underlying3,sQ,sR,Value.cells,hf,ht,List.range,List.range.loop]
abbrev xc(w:World)(b:Nat)(l:List (Pr×Value)):Prop:=dV (kS Tryz.prog 87 (Maps.Keyed.of_law fu) iV) w b l
abbrev nN(w:World)(b:Nat)(l:List (Pt×Value)):Prop:=dV (ptKeys Tryz.prog 44 (Maps.Keyed.of_law oT) sS) w b l
abbrev Bf(w:World)(b:Nat)(l:List (Pt×Value)):Prop:=dV (ptKeys Tryz.prog 98 (Maps.Keyed.of_law j7) j9) w b l
theorem aI{W W':World}(hb:Below W.heap.size W W'):W.grownBy W' none:=⟨hb.os,hb.tape,hb.output,hb.size,fun i hi _=>hb.block i hi⟩
structure IU(w0:World)(v:Value)(l:List Ob)(k bb bm:Nat)(ml:List (BA×Value))(W:World):Prop where
 box:W.heap[bb]? =some (.cells #[v,.map (some bm)] 81 (0,0))
 map:cE W bm ml
 find:∀s,aJ ml s=(dv s (l.take k)).map (fun i=>Value.int .i64 (i:Nat))
 len:ml.length≤k
 below:Below w0.heap.size w0 W
 lo:w0.heap.size≤bm
theorem IU.lift{w0:World}{v:Value}{l:List Ob}{k bb bm:Nat}{ml:List (BA×Value)}{W W':World}(h:IU w0 v l k bb bm ml W)(hb:Below W.heap.size W W'):IU w0 v l k bb bm ml W':=
 ⟨ai hb h.box,h.map.kept (aI hb) (by simp),h.find,h.len,aq h.below hb,h.lo⟩
def CL(W:World)(l:List Ob)(pv:Value):Prop:=∃v bm ml,pv= .agg #[v,.map (some bm)]∧fm W v l∧cE W bm ml∧∀s,aJ ml s=(dv s l).map (fun i=>Value.int .i64 (i:Nat))
theorem CL.below{W W':World}{l:List Ob}{pv:Value}(h:CL W l pv)(hb:Below W.heap.size W W'):CL W' l pv:=by
 obtain⟨v,bm,ml,h1,h2,h3,h4⟩:=h;exact⟨v,bm,ml,h1,h2.below hb,h3.kept (aI hb) (by simp),h4⟩
theorem zj(s:BA)(M:List Ob)(o:Ob):dv s (M++[o])=(dv s M).or (if o.id=s then some M.length else none):=by
 induction M with
 |nil=>simp[dv]
 |cons x M ih=>
  simp only[List.cons_append,dv,ih];split
  ·simp
  ·cases dv s M<;>simp
theorem zk{l:List Ob}(hu:uniq l){k:Nat}{o:Ob}(ho:l[k]? =some o)(s:BA):dv s (l.take (k+1))=if s=o.id then some k else dv s (l.take k):=by
 have hk:=(List.getElem?_eq_some_iff.1 ho).1;have e:l.take (k+1)=l.take k++[o]:=by rw[List.take_add_one,ho];rfl
 rw[e,zj,List.length_take,Nat.min_eq_left O9];by_cases h:s=o.id
 ·subst h;rw[if_pos rfl,if_pos rfl];cases e2:dv o.id (l.take k)with
  |none=>rfl
  |some i=>
   obtain⟨x,h1,h2,h3,_⟩:=eU _ _ i e2;rw[List.length_take]at h3;rw[List.getElem?_take_of_lt O9]at h1;have hp:=List.pairwise_iff_getElem.1 hu i k O9 hk O9;obtain⟨_,rfl⟩:=List.getElem?_eq_some_iff.1 ho;obtain⟨_,rfl⟩:=List.getElem?_eq_some_iff.1 h1;exact absurd h2 hp
 ·rw[if_neg h,if_neg (fun e=>h e.symm)];cases dv s (l.take k)<;>rfl
theorem Bg(l:List Ob)(v:Value)(w:World)(hv:fm w v l):Calls Tryz.prog 29 #[.agg #[v]] w fun e w'=>Below w.heap.size w w'∧((aZ l=false∧∃pv,e= .returned (.tuple #[pv,.bool false]))∨(aZ l=true∧∃pv,e= .returned (.tuple #[pv,.bool true])∧CL w' l pv)):=by
 have HV:=aa (fun w' hw'=>iP l v w' hw' hv.len hv.ok);have HI:=aa hv;have hlen:=hv.len;obtain⟨A,c,rfl,_,hA⟩:=hv.obs;have HA:=aa hA;have HS:=aa hv.ok;obtain⟨wa,hwa⟩:∃wa,(w.alloc (.cells #[.slice A l.length c] 24)).alloc (.cells #[.slice none 0 0,.map none] 81)=wa:=⟨_,rfl⟩;have ha:Below w.heap.size w wa:=by rw[←hwa];exact((Below.refl _ _).alloc (Nat.le_refl _) _).alloc (by simp) _
 have hm:wa.heap[w.heap.size]? =some (.cells #[.slice A l.length c] 24 (0,0)):=by
  rw[←hwa];exact ai ((Below.refl _ _).alloc (Nat.le_refl _) _) (heap_alloc_new w _)
 have hr:wa.heap[w.heap.size+1]? =some (.cells #[.slice none 0 0,.map none] 81 (0,0)):=by
  rw[←hwa];have:=heap_alloc_new (w.alloc (.cells #[.slice A l.length c] 24)) (.cells #[.slice none 0 0,.map none] 81);simpa using this
 have HV2:=aa (HV.out wa (HI.out.obs.below ha));have dm:=(cD hm).1;have HR:=aa hr;have HM:=aa hm;have HWA:=aa ha;clear hA hv HV;cases hmb:aZ l with
 |false=>
  rw[hmb]at HV2;clear hmb;go_enter Tryz.func29,Tryz.ntmps29;go_wp2_with fail;refine HV2.out.mono ?_;rintro _ w1 ⟨rfl,hb⟩;have hr1:=ai hb HR.out;obtain⟨⟨q0,q1⟩,f1,f2⟩:=aW hr1;have HB:=aa (aq HWA.out hb);clear hwa ha hm dm hb hr hr1;go_wp2_with fail;refine bodyPost_ret (v:=.tuple #[.agg #[.slice none 0 0,.map none],.bool false]) (by simp[results,Tryz.results29,go_sem,q0,q1]) rfl ⟨(HB.out.setCell (by simp) _).setCell (by simp) _,.inl ⟨trivial,_,rfl⟩⟩
 |true=>
  rw[hmb]at HV2;have HU:=aa (bP hmb);clear hmb;go_enter Tryz.func29,Tryz.ntmps29;go_wp2_with fail;refine HV2.out.mono ?_;rintro _ w1 ⟨rfl,hb⟩;have hm1:=ai hb HM.out;have hr1:=ai hb HR.out;have dm1:=(cD hm1).1;have e1:∀o1 o2:Obj,((w1.alloc o1).alloc o2).cell? ⟨w.heap.size,0,none⟩=some (.slice A l.length c):=fun o1 o2=>
   (cD (ai (((Below.refl w1.heap.size w1).alloc (Nat.le_refl _) o1).alloc (by simp) o2) hm1)).1
  obtain⟨W0,hW0⟩:∃W0,(w1.alloc (.map #[] 0)).alloc (.cells #[.slice A l.length c,.map (some w1.heap.size)] 81)=W0:=⟨_,rfl⟩;have hb0:Below w1.heap.size w1 W0:=by rw[←hW0];exact((Below.refl _ _).alloc (Nat.le_refl _) _).alloc (by simp) _
  have hsz:w.heap.size+2≤w1.heap.size:=by
   have h1:=(Array.getElem?_eq_some_iff.1 hr1).1;omega
  have HP:Hid (IU w (.slice A l.length c) l 0 (w1.heap.size+1) w1.heap.size [] W0):=by
   refine aa ⟨?_,?_,fun s=>rfl,Nat.le_refl _,aq (aq HWA.out hb) hb0,O9⟩
   ·rw[←hW0];have:=heap_alloc_new (w1.alloc (.map #[] 0)) (.cells #[.slice A l.length c,.map (some w1.heap.size)] 81);simpa using this
   ·rw[←hW0];exact(cK _ w1).alloc _
  have HR1:Hid (W0.heap[w.heap.size+1]? =some (.cells #[.slice none 0 0,.map none] 81 (0,0))):=aa (ai hb0 hr1);have HSZ:=aa hsz;obtain⟨bm,hbm⟩:∃bm,w1.heap.size=bm:=⟨_,rfl⟩;have HBM:=aa hbm;clear hwa hm dm hb hr hr1 ha hsz hb0 HV2 HR HM;have HW0:=aa hW0;clear hW0 hbm;go_wp2_with fail;rw[HW0.out];rw[HBM.out]at HP HSZ ⊢;clear HW0 hm1 dm1 e1 HBM
  go_loopw [17] (fun i wr=>∃(k:Nat)(ml:List (ByteArray×Value)),k≤l.length∧i= .int .i64 k∧Hid (IU w (.slice A l.length c) l k (bm+1) bm ml wr)∧Hid (wr.heap[w.heap.size+1]? =some (.cells #[.slice none 0 0,.map none] 81 (0,0)))) (fun i _=>l.length-(intOf i).toNat)
  case atStart=>exact⟨0,[],Nat.zero_le _,rfl,HP,HR1⟩
  case round=>
   clear HP HR1;obtain⟨k,ml,hk,rfl,hpc,hrr⟩:=hrel;by_cases hlt:k<l.length
   ·obtain⟨g,o,rfl,hg,hp⟩:=HA.out.resolve_left (by rintro rfl;simp at hlt);obtain⟨rv,tv,hoa⟩:=hp k _ (List.getElem?_eq_getElem hlt);obtain⟨Ar,cr,hrv,_⟩:=id hoa.refs;obtain⟨At,ct,htv,_⟩:=id hoa.tags;subst hrv;subst htv;obtain⟨c0,c1,c2,c3,c4,c5,_,_⟩:=hoa.below hg hpc.out.below;have hok:=HS.out _ (List.getElem_mem hlt);have HFT:=aa (fun s=>zk HU.out (List.getElem?_eq_getElem hlt) s);generalize l[k]=t at*;have k0:(0:Int)≤k:=O9;have k1:(k:Int)<l.length:=O9;have HL:=aa hlt
    have HMS:=aa (show l.length-(k+1)<l.length-k from by omega);obtain⟨wo,hwo⟩:∃wo,wr.alloc (.cells #[.string t.id,.int .i64 t.kind,.int .i64 t.x,.int .i64 t.y,.slice Ar t.refs.length cr,.slice At t.tags.length ct] 47)=wo:=⟨_,rfl⟩;have hba:Below wr.heap.size wr wo:=by rw[←hwo];exact(Below.refl _ _).alloc (Nat.le_refl _) _
    (have hblk:wo.heap[wr.heap.size]? =some (.cells #[.string t.id,.int .i64 t.kind,.int .i64 t.x,.int .i64 t.y,.slice Ar t.refs.length cr,.slice At t.tags.length ct] 47 (0,0)):=by rw[←hwo];exact heap_alloc_new _ _);have hp2:=hpc.out.lift hba;have d0:wo.cell? ⟨wr.heap.size,0,none⟩=some (.string t.id):=cell_of_row wo _ 0 _ _ _ hblk;have p1:=(aW hp2.box).1.2;have hsi:t.id.size≤maxLen:=Nat.le_trans hok.1 (by unfold maxLen;omega)
    obtain⟨W3,hst,hml,htu⟩:=hp2.map.store Tryz.underlying37 (by have:=hp2.len;unfold maxLen;omega) (x:=t.id) hsi (.int .i64 (k:Nat));change (Instr.mapUpdate 37 (.map (some bm)) (.string t.id) (.int .i64 (k:Int))).run _ _=_ at hst;have HP3:Hid (IU w (.slice (some ⟨g,o,none⟩) l.length c) l (k+1) (bm+1) bm (cR ml t.id (.int .i64 (k:Nat))) W3):=by
     refine aa ⟨iO htu hp2.box O9,hml,fun s=>?_,?_,mI hp2.below hp2.lo htu,hp2.lo⟩
     ·rw[cC,HFT.out s,hp2.find];by_cases e:s=t.id
      ·rw[if_pos e,if_pos e];rfl
      ·rw[if_neg e,if_neg e]
     ·rw[dF];have:=hp2.len;split<;>omega
    have HR3:Hid (W3.heap[w.heap.size+1]? =some (.cells #[.slice none 0 0,.map none] 81 (0,0))):=aa (iO htu (ai hba hrr.out) (by have:=HSZ.out;omega));clear hlt hp hoa hpc hrr hok hba hblk hp2 hml htu hsi HFT;go_wp2_with fail;refine⟨⟨k+1,_,HL.out,by go_num,HP3,HR3⟩,?_⟩;have:=HMS.out;simp[intOf];omega
   ·(obtain rfl:k=l.length:=by omega);have k1:¬(l.length:Int)<(l.length:Nat):=O9;have HPC:=aa hpc.out;have p0:=(aW hpc.out.box).1.1;have p1:=(aW hpc.out.box).1.2;obtain⟨⟨q0,q1⟩,f1,f2⟩:=aW hrr.out;have HRR:=aa hrr.out;clear hpc hrr hlt;go_wp2_with fail;have HBB:Below w.heap.size w ((wr.setCell ⟨w.heap.size+1,0,none⟩ (.slice A l.length c)).setCell ⟨w.heap.size+1,1,none⟩ (.map (some bm))):=(HPC.out.below.setCell (by simp) _).setCell (by simp) _
    refine bodyPost_ret (v:=.tuple #[.agg #[.slice A l.length c,.map (some bm)],.bool true]) (by simp[results,Tryz.results29,go_sem,q0,q1]) rfl ⟨HBB,_,rfl,.slice A l.length c,bm,ml,rfl,⟨HI.out.obs.below HBB,HI.out.len,HI.out.ok⟩,?_,fun s=>by rw[HPC.out.find,List.take_length]⟩;exact(HPC.out.map.setCell (by intro e;have:=HSZ.out;simp at e;omega) _).setCell (by intro e;have:=HSZ.out;simp at e;omega) _
def fS(a b:BA):Int:=if fK a b=true then-1 else if fK b a=true then 1 else 0
theorem qS(a:BA)(w:World):Calls Tryz.prog 143 #[.string a] w fun e w'=>e= .returned (.bool false)∧w=w':=by
 have ea:=IG (rfl:a=a);go_enter Tryz.func143,Tryz.ntmps143;go_wp2_with fail;go_ret;exact⟨rfl,rfl⟩
theorem qT(a b:BA)(w:World):Calls Tryz.prog 92 #[.string a,.string b] w fun e w'=>e= .returned (.int .i64 (fS a b))∧w=w':=by
 unfold fS;cases h1:fK a b with
 |true=>
  rw[if_pos rfl];unfold fK at h1;go_enter Tryz.func92,Tryz.ntmps92;go_wp2_with (go_at_call 143;refine(qS _ _).mono ?_;rintro _ _ ⟨rfl,rfl⟩);go_ret;exact⟨rfl,rfl⟩
 |false=>
  rw[if_neg (by simp)];unfold fK at h1;cases h2:fK b a with
  |true=>
   rw[if_pos rfl];obtain⟨n1,n2⟩:=IT (show a≠b from fun e=>by rw[e,bj]at h2;cases h2);unfold fK at h2;go_enter Tryz.func92,Tryz.ntmps92;go_wp2_with (go_at_call 143;refine(qS _ _).mono ?_;rintro _ _ ⟨rfl,rfl⟩);go_ret;exact⟨rfl,rfl⟩
  |false=>
   rw[if_neg (by simp)];obtain rfl:a=b:=by
    rcases Classical.em (a=b)with e|e
    ·exact e
    ·rw[gL h1 e]at h2;cases h2
   have ea:=IG (rfl:a=a);go_enter Tryz.func92,Tryz.ntmps92;go_wp2_with (go_at_call 143;refine(qS _ _).mono ?_;rintro _ _ ⟨rfl,rfl⟩);go_ret;exact⟨rfl,rfl⟩
theorem nO(a b:BA):fS a b<0↔fK a b=true:=by
 unfold fS;cases fK a b<;>cases fK b a<;>simp
theorem fO(a b:BA):fS a b=0↔a=b:=by
 unfold fS;cases h1:fK a b with
 |true=>
  simp only[if_true];refine⟨fun h=>O9,fun e=>?_⟩;rw[e,bj]at h1;cases h1
 |false=>
  cases h2:fK b a with
  |true=>
   refine⟨fun h=>by simp at h,fun e=>?_⟩;rw[e,bj]at h2;cases h2
  |false=>
   refine⟨fun _=>?_,fun _=>by simp⟩;rcases Classical.em (a=b)with e|e
   ·exact e
   ·rw[gL h1 e]at h2;cases h2
def GY(p q:Pr):Int:=if fS p.1 q.1=0 then fS p.2 q.2 else fS p.1 q.1
theorem uw(p q:Pr):GY p q<0↔kC p q:=by
 unfold GY kC;by_cases h:fS p.1 q.1=0
 ·rw[if_pos h,nO];rw[fO]at h;rw[h,bj];simp
 ·rw[if_neg h,nO];rw[fO]at h;simp[h]
theorem uz(g c:Nat)(p q:Pr)(w:World)(h0:w.cell? ⟨g,0,none⟩=some (.string p.1))(h1:w.cell? ⟨g,1,none⟩=some (.string q.1))(h2:w.cell? ⟨g,2,none⟩=some (.string p.2))(h3:w.cell? ⟨g,3,none⟩=some (.string q.2)):Calls Tryz.prog 88 #[.slice (some ⟨g,0,none⟩) 4 c] w fun e w'=>e= .returned (.int .i64 (GY p q))∧aT w w':=by
 have HX:=aa (fun W=>(qT p.1 q.1 W).mono (fun _ _ h=>(⟨h.1,h.2.symm⟩:_∧_)));have HY:=aa (fun W=>(qT p.2 q.2 W).mono (fun _ _ h=>(⟨h.1,h.2.symm⟩:_∧_)));unfold GY;obtain⟨p1,p2⟩:=p;obtain⟨q1,q2⟩:=q;simp only at h0 h1 h2 h3 HX HY ⊢;generalize fS p1 q1=x at*;generalize fS p2 q2=y at*;by_cases hx:x=0
 ·rw[if_pos hx];subst hx;by_cases hy:y=0
  ·subst hy;go_enter Tryz.func88,Tryz.ntmps88;go_wp2_with fail;refine wp_loop_rounds 3 ?_;rw[rounds_succ];go_wp2_with fail;go_quiet (first|(go_at_call 92;exact Calls.quiet_of_same (HX.out _)));have h2':(w.drewN nq).cell? ⟨g,2,none⟩=some (.string p2):=h2;have h3':(w.drewN nq).cell? ⟨g,3,none⟩=some (.string q2):=h3;have HG1:Hid (aT w (w.drewN nq)):=aa ((aT.refl _).drewN _);clear h0 h1 h2 h3;generalize w.drewN nq=w2 at*;go_wp2_with fail;rw[rounds_succ];go_wp2_with fail
   go_quiet (first|(go_at_call 92;exact Calls.quiet_of_same (HY.out _)));go_wp2_with fail;rw[rounds_succ];go_wp2_with fail;go_ret;exact⟨rfl,HG1.out.drewN _⟩
  ·have e1:(y ==0)=false:=beq_eq_false_iff_ne.2 hy;(have e2:(y != 0)=true:=by rw[bne,e1];rfl);clear hy;go_enter Tryz.func88,Tryz.ntmps88;go_wp2_with fail;refine wp_loop_rounds 3 ?_;rw[rounds_succ];go_wp2_with fail;go_quiet (first|(go_at_call 92;exact Calls.quiet_of_same (HX.out _)));have h2':(w.drewN nq).cell? ⟨g,2,none⟩=some (.string p2):=h2;have h3':(w.drewN nq).cell? ⟨g,3,none⟩=some (.string q2):=h3;have HG1:Hid (aT w (w.drewN nq)):=aa ((aT.refl _).drewN _);clear h0 h1 h2 h3
   generalize w.drewN nq=w2 at*;go_wp2_with fail;rw[rounds_succ];go_wp2_with fail;go_quiet (first|(go_at_call 92;exact Calls.quiet_of_same (HY.out _)));go_wp2_with fail;go_ret;exact⟨rfl,HG1.out.drewN _⟩
 ·rw[if_neg hx];have e1:(x ==0)=false:=beq_eq_false_iff_ne.2 hx;have e2:(x != 0)=true:=by rw[bne,e1];rfl
  clear hx;go_enter Tryz.func88,Tryz.ntmps88;go_wp2_with fail;refine wp_loop_rounds 3 ?_;rw[rounds_succ];go_wp2_with fail;go_quiet (first|(go_at_call 92;exact Calls.quiet_of_same (HX.out _)));go_wp2_with fail;go_ret;exact⟨rfl,(aT.refl _).drewN _⟩
def GZ(w0 W:World)(l:List Ob)(bp:Nat):Prop:=∃v bm ml,W.heap[bp]? =some (.cells #[v,.map (some bm)] 81 (0,0))∧fm W v l∧cE W bm ml∧(∀s,aJ ml s=(dv s l).map (fun i=>Value.int .i64 (i:Nat)))∧Below w0.heap.size w0 W
theorem GZ.below{w0 W W':World}{l:List Ob}{bp:Nat}(h:GZ w0 W l bp)(hb:Below W.heap.size W W'):GZ w0 W' l bp:=by
 obtain⟨v,bm,ml,h1,h2,h3,h4,h5⟩:=h;exact⟨v,bm,ml,ai hb h1,h2.below hb,h3.kept (aI hb) (by simp),h4,aq h5 hb⟩
theorem GZ.self{w0 W:World}{l:List Ob}{bp:Nat}(h:GZ w0 W l bp):GZ W W l bp:=by
 obtain⟨v,bm,ml,h1,h2,h3,h4,h5⟩:=h;exact⟨v,bm,ml,h1,h2,h3,h4,Below.refl _ _⟩
theorem sT(w:World):(zeroValue 3).run Tryz.prog w= .ok (.int .i64 0) w:=K9
theorem xd(l:List Ob)(hu:uniq l)(bp:Nat)(s:BA)(hs:s.size≤100000)(w:World)(h:GZ w w l bp):Calls Tryz.prog 131 #[.string s,.pointer (some ⟨bp,0,none⟩)] w fun e w'=>e= .returned (.bool (!isNode l s))∧Below w.heap.size w w':=by
 obtain⟨v,bm,ml,hb,hi,hm,hf,_⟩:=h;have hsz:s.size≤maxLen:=Nat.le_trans hs (by unfold maxLen;omega);have hlook:(Instr.lookup 37 (.map (some bm)) (.string s) true).run Tryz.prog w=_:=hm.look_ok Tryz.underlying37 sT (x:=s) hsz;rw[hf]at hlook;have b0:=(aW hb).1.1;have b1:=(aW hb).1.2;have HN:=aa (oJ hu s);cases e:dv s l with
 |none=>
  have hz:cA l s=none:=by
   cases e2:cA l s with
   |none=>rfl
   |some o=>
    obtain⟨h1,h2⟩:=db e2;exact absurd h2 (iE s l e o h1)
  rw[hz]at HN;rw[e]at hlook;simp only[Option.map_none,Option.getD_none,Option.isSome_none]at hlook;have HN2:=aa (show(true:Bool)= !isNode l s by rw[HN.out];rfl);clear hz e hf HN hm hi hu;go_enter Tryz.func131,Tryz.ntmps131;go_wp2_with fail;go_ret;exact⟨ag HN2.out,Below.refl _ _⟩
 |some i=>
  obtain⟨o,h1,h2,h3,h4⟩:=eU s l i e;rw[h4]at HN;rw[e]at hlook;simp only[Option.map_some,Option.getD_some,Option.isSome_some]at hlook;obtain⟨A,c,rfl,_,hA⟩:=hi.obs;obtain⟨g,off,rfl,hg,hp⟩:=hA.resolve_left (by rintro rfl;simp at h3);obtain⟨rv,tv,hoa⟩:=hp i _ h1;have c1:=hoa.c1;have i0:(0:Int)≤(i:Int):=O9;have i1:(i:Int)<l.length:=O9;have HL:=aa hi.len;clear hp hoa hA hi hm hf hu h1 h2 h3 h4 e hg;by_cases hk:o.kind=1
  ·have HN2:=aa (show(false:Bool)= !isNode l s by rw[HN.out];simp[hk]);rw[hk]at c1;clear HN;go_enter Tryz.func131,Tryz.ntmps131;go_wp2_with fail;go_ret;exact⟨ag HN2.out,Below.refl _ _⟩
  ·have HN2:=aa (show(true:Bool)= !isNode l s by rw[HN.out];simp[hk]);have e1:(o.kind ==1)=false:=beq_eq_false_iff_ne.2 hk;(have e2:(o.kind != 1)=true:=by rw[bne,e1];rfl);clear HN;go_enter Tryz.func131,Tryz.ntmps131;go_wp2_with fail;go_ret;exact⟨ag HN2.out,Below.refl _ _⟩
def dZ(l:List Ob):Prop:=l.length≤20∧∀o∈l,o.id.size≤60∧o.refs.length≤12∧∀s∈o.refs,s.size≤60
theorem CM{l:List Ob}(h:rB 20 l=true):dZ l:=by
 unfold rB at h;rw[Bool.and_eq_true,decide_eq_true_eq,List.all_eq_true]at h;refine⟨h.1,fun o ho=>?_⟩;have h2:=h.2 o ho;unfold l9 yt at h2;simp only[Bool.and_eq_true,decide_eq_true_eq,List.all_eq_true]at h2;exact⟨h2.1.2,h2.1.1.1,h2.2.1⟩
theorem xe(l:List Ob)(hu:uniq l)(bp:Nat)(w:World)(h:GZ w w l bp)(r:List BA)(v:Value)(hr:ff w v r)(hl:r.length≤100000)(hs:∀s∈r,s.size≤100000):Calls Tryz.prog 130 #[v,.func (.func 131) #[] #[.pointer (some ⟨bp,0,none⟩)]] w fun e w'=>∃i:Int,e= .returned (.int .i64 i)∧decide (0≤i)=r.any (fun s=> !isNode l s)∧Below w.heap.size w w':=by
 have HT:=aa h;have HOK:=aa hs;have HU:=aa hu;obtain⟨A,c,rfl,_,hA⟩:=hr;have HA:=aa hA;obtain⟨R,hR⟩:∃R,r.any (fun s=> !isNode l s)=R:=⟨_,rfl⟩;rw[hR];have HR:=aa hR;clear hA hR h hu hs;go_enter Tryz.func130,Tryz.ntmps130;go_wp2_with fail;go_loopw [8] (fun i wr=>∃(k:Nat),k≤r.length∧i= .int .i64 k∧Hid (Below w.heap.size w wr)∧Hid ((r.drop k).any (fun s=> !isNode l s)=R)) (fun i _=>r.length-(intOf i).toNat)
 case atStart=>exact⟨0,Nat.zero_le _,rfl,Below.refl _ _,HR⟩
 case round=>
  obtain⟨k,hk,rfl,hw,hr⟩:=hrel;by_cases hlt:k<r.length
  ·obtain⟨g,off,rfl,hg,hp⟩:=HA.out.resolve_left (by rintro rfl;simp at hlt);have c1:=(hp.below hg hw.out) k _ (List.getElem?_eq_getElem hlt);have hr2:=hr.out;rw[List.drop_eq_getElem_cons hlt,List.any_cons]at hr2;have hok:=HOK.out _ (List.getElem_mem hlt);generalize r[k]=x at*;have HX:=aa (xd l HU.out bp x hok wr ((HT.out.below hw.out).self));have k0:(0:Int)≤k:=O9;have k1:(k:Int)<r.length:=O9;have HL:=aa hlt;have HM:=aa (show r.length-(k+1)<r.length-k from by omega);have HBW:=aa hw.out
   clear hr hlt hp hw hok;cases hb:isNode l x with
   |false=>
    rw[hb]at hr2 HX;have HR2:=aa hr2;clear hr2 hb;go_wp2_with fail;refine HX.out.mono ?_;rintro _ w2 ⟨rfl,h2⟩;have HW2:=aa (aq HBW.out h2);clear h2 HX HBW c1;go_wp2_with fail;go_ret;refine⟨_,rfl,?_,HW2.out⟩;rw[←HR2.out];simp
   |true=>
    rw[hb]at hr2 HX;have HR2:=aa hr2;clear hr2 hb;go_wp2_with fail;refine HX.out.mono ?_;rintro _ w2 ⟨rfl,h2⟩;have HW2:=aa (aq HBW.out h2);clear h2 HX HBW c1;go_wp2_with fail;refine⟨⟨k+1,HL.out,by go_num,HW2,aa (by simpa using HR2.out)⟩,?_⟩;have:=HM.out;simp[intOf];omega
  ·(have hz:R=false:=by rw[←hr.out,List.drop_eq_nil_of_le O9];rfl);have HZ:=aa hz;have HW2:=aa hw.out;clear hr hz hw;go_wp2_with fail;go_ret;exact⟨_,rfl,by rw[HZ.out];rfl,HW2.out⟩
theorem qU(l:List Ob)(hu:uniq l)(bp:Nat)(w:World)(h:GZ w w l bp)(r:List BA)(v:Value)(hr:ff w v r)(hl:r.length≤100000)(hs:∀s∈r,s.size≤100000):Calls Tryz.prog 83 #[v,.func (.func 131) #[] #[.pointer (some ⟨bp,0,none⟩)]] w fun e w'=>e= .returned (.bool (r.any (fun s=> !isNode l s)))∧Below w.heap.size w w':=by
 have HI:=aa (xe l hu bp w h r v hr hl hs);clear hr h hu hs;obtain⟨R,hR⟩:∃R,r.any (fun s=> !isNode l s)=R:=⟨_,rfl⟩;rw[hR]at HI ⊢;clear hR;go_enter Tryz.func83,Tryz.ntmps83;go_wp2_with fail;refine HI.out.mono ?_;rintro _ w2 ⟨r,rfl,hr,hw⟩;have HR:=aa hr;have HW:=aa hw;clear hr hw HI;go_wp2_with fail;go_ret;exact⟨ag HR.out,HW.out⟩
theorem CN(l:List Ob)(hu:uniq l)(o:Ob)(rv tv pv:Value)(w:World)(h:CL w l pv)(hr:ff w rv o.refs)(hl:o.refs.length≤100000)(hs:∀s∈o.refs,s.size≤100000):Calls Tryz.prog 85 #[pv,.agg (eN o rv tv)] w fun e w'=>e= .returned (.bool (o.refs.all (isNode l)))∧Below w.heap.size w w':=by
 obtain⟨v,bm,ml,rfl,h1,h2,h3⟩:=h;obtain⟨w2,hw2⟩:∃w2,(w.alloc (.cells #[v,.map (some bm)] 81)).alloc (.cells (eN o rv tv) 47)=w2:=⟨_,rfl⟩;have hb:Below w.heap.size w w2:=by rw[←hw2];exact((Below.refl _ _).alloc (Nat.le_refl _) _).alloc (by simp) _
 have hbp:w2.heap[w.heap.size]? =some (.cells #[v,.map (some bm)] 81 (0,0)):=by
  rw[←hw2];exact ai ((Below.refl _ _).alloc (Nat.le_refl _) _) (heap_alloc_new w _)
 have hbo:w2.heap[w.heap.size+1]? =some (.cells (eN o rv tv) 47 (0,0)):=by
  rw[←hw2];have:=heap_alloc_new (w.alloc (.cells #[v,.map (some bm)] 81)) (.cells (eN o rv tv) 47);simpa using this
 have HX:=aa (qU l hu w.heap.size w2 ⟨v,bm,ml,hbp,h1.below hb,h2.kept (aI hb) (by simp),h3,Below.refl _ _⟩ o.refs rv (hr.below hb) hl hs);have HB:=aa hb;have HN:Hid ((!(o.refs.any (fun s=> !isNode l s)))=o.refs.all (isNode l)):=aa (by
  rw[List.not_any_eq_all_not];simp)
 unfold eN at hw2 hbo ⊢;have c3:w2.cell? ⟨w.heap.size+1,4,none⟩=some rv:=cell_of_row w2 _ 4 _ _ _ hbo;clear hb hbp h1 h2 h3 hr hs hbo hu;go_enter Tryz.func85,Tryz.ntmps85;go_wp2_with fail;refine HX.out.mono ?_;rintro _ w3 ⟨rfl,hb3⟩;have HB3:=aa (aq HB.out hb3);clear hb3 hw2 c3;go_wp2_with fail;go_ret;exact⟨ag HN.out,HB3.out⟩
theorem bG{w w':World}{B:Nat}{e:TypeId}{sz:Nat}{v:Value}{n:Nat}{xs:List Value}{row:Option Nat}(h:w.ownsRow B e sz v n xs)(hb:w.grownBy w' row)(hr:∀b,v.ownBlock=some b→row≠some b):w'.ownsRow B e sz v n xs:=by
 obtain⟨h1,h2⟩:=h;refine⟨h1,?_⟩;rcases h2 with h2|⟨g,cap,cur,rfl,hg,hh,r⟩
 ·exact .inl h2
 ·exact .inr ⟨g,cap,cur,rfl,hg,(hb.block g (lt_of_block hh) (fun e=>hr g rfl e.symm)).trans hh,r⟩
theorem ao{w w':World}{B:Nat}{e:TypeId}{sz:Nat}{v:Value}{n:Nat}{xs:List Value}(h:w.ownsRow B e sz v n xs)(hb:Below w.heap.size w w'):w'.ownsRow B e sz v n xs:=by
 obtain⟨h1,h2⟩:=h;refine⟨h1,?_⟩;rcases h2 with h2|⟨g,cap,cur,hv,hg,hh,r⟩
 ·exact .inl h2
 ·exact .inr ⟨g,cap,cur,hv,hg,(hb.block g (lt_of_block hh)).trans hh,r⟩
def Jp(W:World)(g o:Nat)(L:List (List ByteArray)):Prop:=∀(i:Nat) r,L[i]? =some r→∃iv,W.cell? ⟨g,o+i,none⟩=some iv∧ff W iv r
def DO(W:World)(v:Value)(L:List (List ByteArray)):Prop:=∃A c,v= .slice A L.length c∧L.length≤c∧(L=[]∨∃g o,A=some ⟨g,o,none⟩∧g<W.heap.size∧Jp W g o L)
theorem Jp.below{W W':World}{g o:Nat}{L:List (List ByteArray)}(h:Jp W g o L)(hg:g<W.heap.size)(hb:Below W.heap.size W W'):Jp W' g o L:=fun i r hi=>by
 obtain⟨iv,h1,h2⟩:=h i r hi;exact⟨iv,(hb.cell (p:=⟨g,_,none⟩) hg).trans h1,h2.below hb⟩
theorem DO.below{W W':World}{v:Value}{L:List (List ByteArray)}(h:DO W v L)(hb:Below W.heap.size W W'):DO W' v L:=by
 obtain⟨A,c,hv,hc,h⟩:=h;refine⟨A,c,hv,hc,?_⟩;rcases h with h|⟨g,o,hA,hg,hp⟩
 ·exact .inl h
 ·exact .inr ⟨g,o,hA,Nat.lt_of_lt_of_le hg hb.size,hp.below hg hb⟩
theorem ak{a b c:World}{row:Option Nat}(h:Below a.heap.size a b)(hg:b.grownBy c row)(hk:∀r,row=some r→a.heap.size≤r):Below a.heap.size a c:=
 ⟨hg.os.trans h.os,hg.tape.trans h.tape,hg.output.trans h.output,Nat.le_trans h.size hg.size,fun i hi=>(hg.block i (Nat.lt_of_lt_of_le hi h.size) (fun e=>by have:=hk i e.symm;omega)).trans (h.block i hi)⟩
theorem bR{W:World}{B B' sz sz' n n':Nat}{t t':TypeId}{v v':Value}{xs xs':List Value}(h:W.ownsRow B t sz v n xs)(h':W.ownsRow B' t' sz' v' n' xs')(ht:t≠t'):∀b,v.ownBlock=some b→v'.ownBlock≠some b:=by
 intro b h1 h2;obtain⟨_,c,hc⟩:=bK h h1;obtain⟨_,c',hc'⟩:=bK h' h2;rw[hc]at hc';cases hc';exact ht rfl
theorem eA{W:World}{B sz n b:Nat}{t t':TypeId}{v:Value}{xs:List Value}{cs:Array Value}{f:Nat×Nat}(h:W.ownsRow B t sz v n xs)(hb:W.heap[b]? =some (.cells cs t' f))(ht:t'≠t):some b≠v.ownBlock:=by
 intro e;obtain⟨_,c,hc⟩:=bK h e.symm;rw[hc]at hb;cases hb;exact ht rfl
structure uO(B:Nat)(rows:List (Value×List BA))(W:World):Prop where
 row:∀x∈rows,W.ownsRow B 9 1 x.1 x.2.length (x.2.map .string)
 ne:rows.Pairwise (fun x y=>∀b,x.1.ownBlock=some b→y.1.ownBlock≠some b)
theorem uO.grow{B:Nat}{W W':World}{pre post:List (Value×List BA)}{x x':Value×List BA}{row:Option Nat}(h:uO B (pre++x::post) W)(hg:W.grownBy W' row)(hrow:row=none∨row=x.1.ownBlock)
  (hr:W'.ownsRow B 9 1 x'.1 x'.2.length (x'.2.map .string))(hat:∀b,x'.1.ownBlock=some b→x.1.ownBlock=some b∨W.heap.size≤b):uO B (pre++x'::post) W':=by
 obtain⟨n1,n2,n3⟩:=List.pairwise_append.1 h.ne;obtain⟨n4,n5⟩:=List.pairwise_cons.1 n2;have far:∀y,y∈pre++post→(∀b,y.1.ownBlock=some b→x.1.ownBlock≠some b)∧W.ownsRow B 9 1 y.1 y.2.length (y.2.map .string):=fun y hy=>by
  rcases List.mem_append.1 hy with hy|hy
  ·exact⟨fun b hb=>n3 y hy x (List.mem_cons_self ..) b hb,h.row y (List.mem_append_left _ hy)⟩
  ·exact⟨fun b hb hx=>n4 y hy b hx hb,h.row y (List.mem_append_right _ (List.mem_cons_of_mem _ hy))⟩
 have kept:∀y,y∈pre++post→W'.ownsRow B 9 1 y.1 y.2.length (y.2.map .string):=fun y hy=>by
  obtain⟨f1,f2⟩:=far y hy;refine bG f2 hg (fun b h1 h2=>?_);rcases hrow with e|e
  ·rw[e]at h2;cases h2
  ·rw[e]at h2;exact f1 b h1 h2
 have apart:∀y,y∈pre++post→∀b,y.1.ownBlock=some b→x'.1.ownBlock≠some b:=fun y hy b h1 h2=>by
  obtain⟨f1,f2⟩:=far y hy;rcases hat b h2 with h3|h3
  ·exact f1 b h1 h3
  ·obtain⟨_,cur,hc⟩:=bK f2 h1;have:=lt_of_block hc;omega
 refine⟨fun y hy=>?_,?_⟩
 ·rcases List.mem_append.1 hy with hy|hy
  ·exact kept y (List.mem_append_left _ hy)
  ·rcases List.mem_cons.1 hy with rfl|hy
   ·exact hr
   ·exact kept y (List.mem_append_right _ hy)
 ·refine List.pairwise_append.2 ⟨n1,List.pairwise_cons.2 ⟨fun y hy b h1 h2=>apart y (List.mem_append_right _ hy) b h2 h1,n5⟩,fun y hy z hz b h1=>?_⟩;rcases List.mem_cons.1 hz with rfl|hz
  ·exact apart y (List.mem_append_left _ hy) b h1
  ·exact n3 y hy z (List.mem_cons_of_mem _ hz) b h1
theorem uO.kept{B:Nat}{W W':World}{rows:List (Value×List BA)}{row:Option Nat}(h:uO B rows W)(hg:W.grownBy W' row)(hn:∀x∈rows,∀b,x.1.ownBlock=some b→row≠some b):uO B rows W':=
 ⟨fun x hx=>bG (h.row x hx) hg (hn x hx),h.ne⟩
theorem lX:(Tryz.prog.info? 39).map (fun i=>(i.zero,i.size,i.bytes))=some (some (.slice none 0 0),1,24):=K9
theorem dM:(Tryz.prog.info? 9).map (fun i=>(i.zero,i.size,i.bytes))=some (some (.string ⟨#[]⟩),1,16):=K9
theorem cT{W:World}{B n:Nat}{v:Value}{l:List BA}(h:W.ownsRow B 9 1 v n (l.map Value.string))(hn:n=l.length):ff W v l:=by
 subst hn;rcases h.2 with⟨hv,h0⟩|⟨g,cap,cur,hv,hg,hh,hc,_⟩
 ·subst hv;obtain rfl:=List.length_eq_zero_iff.1 h0;exact⟨none,0,rfl,Nat.le_refl _,.inl rfl⟩
 ·subst hv;refine⟨some ⟨g,0,none⟩,cap,rfl,hc,.inr ⟨g,0,rfl,lt_of_block hh,fun i s hi=>?_⟩⟩;have:=h.cells (g:=g) rfl i (.string s) (by rw[List.getElem?_map,hi];rfl);have e:(⟨g,0,none⟩:Addr).add i=⟨g,0+i,none⟩:=by simp only[Addr.add,Nat.zero_add];split<;>simp_all
  rw[←e];exact this
theorem aC{P:Program}{k:TypeId}{K:Type}[DecidableEq K]{B:dS P k K}{W:World}{b:Nat}{l:List (K×Value)}(h:dV B W b l):∃es c,W.heap[b]? =some (.map es c):=by
 obtain⟨D,⟨es,clock,h0,_⟩,_⟩:=h.own;exact⟨es,clock,h0⟩
theorem dh{P:Program}{k:TypeId}{K:Type}[DecidableEq K]{B:dS P k K}{W:World}{b r ja:Nat}{l:List (K×Value)}{left:K→Bool}(h:bD B W b r l left ja):∃m s e c,W.heap[r]? =some (.mapIter m s e c):=by
 obtain⟨D,lf,⟨es,clock,since,seen,c0,_,_,_,_,h0,_⟩,_⟩:=h.own;exact⟨_,_,_,_,h0⟩
theorem bZ{W:World}{B sz n b:Nat}{t:TypeId}{v:Value}{xs:List Value}(h:W.ownsRow B t sz v n xs)(hb:∃m s e c,W.heap[b]? =some (.mapIter m s e c)):v.ownBlock≠some b:=by
 intro e;obtain⟨m,s,e',c,hb⟩:=hb;obtain⟨_,cur,hc⟩:=bK h e;rw[hc]at hb;cases hb
theorem aH{W:World}{B sz n b:Nat}{t:TypeId}{v:Value}{xs:List Value}(h:W.ownsRow B t sz v n xs)(hb:∃es c,W.heap[b]? =some (.map es c)):v.ownBlock≠some b:=by
 intro e;obtain⟨es,c,hb⟩:=hb;obtain⟨_,cur,hc⟩:=bK h e;rw[hc]at hb;cases hb
structure DP(w0:World)(bo:Nat)(rows:List (Rw Pr))(W:World):Prop where
 map:xc W bo (keyed rows)
 sr:uO w0.heap.size (rows.map Prod.snd) W
 below:Below w0.heap.size w0 W
 lo:w0.heap.size≤bo
theorem DP.lift{w0:World}{bo:Nat}{rows:List (Rw Pr)}{W W':World}(h:DP w0 bo rows W)(hb:Below W.heap.size W W'):DP w0 bo rows W':=
 ⟨h.map.kept (aI hb) (by simp),h.sr.kept (aI hb) (fun _ _ _ _=>by simp),aq h.below hb,h.lo⟩
theorem DP.at{w0:World}{bo:Nat}{rows:List (Rw Pr)}{W:World}{G:Pr→List BA}(h:DP w0 bo rows W)(hr:bW rows G)(p:Pr):
  ∃pre post v0,(aJ (keyed rows) p).getD (.slice none 0 0)=v0∧ff W v0 (G p)∧uO w0.heap.size (pre.map Prod.snd++(v0,G p)::post.map Prod.snd) W∧∀v' s,bW (pre++(p,v',G p++[s])::post) (fun q=>if q=p then G p++[s]else G q)∧cR (keyed rows) p v'=keyed (pre++(p,v',G p++[s])::post)∧(pre++(p,v',G p++[s])::post).length≤rows.length+1:=by
 rcases hr.look p with⟨h1,h2⟩|⟨pre,x,post,rfl,hxp,hx2,hne,h3⟩
 ·have hsr:uO w0.heap.size (rows.map Prod.snd++((.slice none 0 0:Value),([]:List BA))::([]:List (Rw Pr)).map Prod.snd) W:=by
   refine⟨fun x hx=>?_,?_⟩
   ·rcases List.mem_append.1 hx with hx|hx
    ·exact h.sr.row x hx
    ·simp at hx;rw[hx];exact World.ownsRow_nil _ _ _ _
   ·refine List.pairwise_append.2 ⟨h.sr.ne,List.pairwise_singleton _ _,fun x _ y hy b _=>?_⟩;simp at hy;rw[hy];simp[Value.ownBlock]
  refine⟨rows,[],.slice none 0 0,by rw[h2];rfl,by rw[h1];exact⟨none,0,rfl,Nat.le_refl _,.inl rfl⟩,by rw[h1];exact hsr,fun v' s=>?_⟩;obtain⟨r1,r2⟩:=hr.add h1 v' s;rw[h1,List.nil_append];rw[h1,List.nil_append]at r1;exact⟨r1,r2,by simp⟩
 ·have hsr:=h.sr;rw[List.map_append,List.map_cons]at hsr;have hx:x.2=(x.2.1,G p):=by rw[←hx2]
  rw[hx]at hsr;refine⟨pre,post,x.2.1,by rw[h3];rfl,cT (hsr.row _ (List.mem_append_right _ (List.mem_cons_self ..))) rfl,hsr,fun v' s=>?_⟩;obtain⟨r1,r2⟩:=hr.set hxp v' s;exact⟨r1,r2,by simp⟩
def kc(x:Rw Pr):List Value:=[.string x.1.1,.string x.1.2,x.2.1]
def Jq(W:World)(g o:Nat)(L:List Ln):Prop:=∀(i:Nat) x,L[i]? =some x→∃ov,W.cell? ⟨g,o+i*3,none⟩=some (.string x.1.1)∧W.cell? ⟨g,o+i*3+1,none⟩=some (.string x.1.2)∧W.cell? ⟨g,o+i*3+2,none⟩=some ov∧ff W ov x.2
def II(W:World)(v:Value)(L:List Ln):Prop:=∃A c,v= .slice A L.length c∧(L=[]∨∃g o,A=some ⟨g,o,none⟩∧g<W.heap.size∧Jq W g o L)
theorem Jq.below{W W':World}{g o:Nat}{L:List Ln}(h:Jq W g o L)(hg:g<W.heap.size)(hb:Below W.heap.size W W'):Jq W' g o L:=fun i x hi=>by
 obtain⟨ov,h1,h2,h3,h4⟩:=h i x hi;exact⟨ov,(hb.cell (p:=⟨g,_,none⟩) hg).trans h1,(hb.cell (p:=⟨g,_,none⟩) hg).trans h2,(hb.cell (p:=⟨g,_,none⟩) hg).trans h3,h4.below hb⟩
theorem II.below{W W':World}{v:Value}{L:List Ln}(h:II W v L)(hb:Below W.heap.size W W'):II W' v L:=by
 obtain⟨A,c,hv,h⟩:=h;refine⟨A,c,hv,?_⟩;rcases h with h|⟨g,o,hA,hg,hp⟩
 ·exact .inl h
 ·exact .inr ⟨g,o,hA,Nat.lt_of_lt_of_le hg hb.size,hp.below hg hb⟩
theorem qV(x:Rw Pr):(kc x).length=3:=rfl
theorem zl{W:World}{B B':Nat}{v:Value}{C:List (Rw Pr)}(h:W.ownsRow B 91 3 v C.length (C.flatMap kc))(hr:∀x∈C,W.ownsRow B' 9 1 x.2.1 x.2.2.length (x.2.2.map .string)):II W v (C.map (fun x=>(x.1,x.2.2))):=by
 rcases h.2 with⟨rfl,h0⟩|⟨g,cap,cur,rfl,hB,hb,hc,_⟩
 ·exact⟨none,0,by rw[List.length_map,h0],.inl (by rw[List.length_eq_zero_iff.1 h0];rfl)⟩
 ·refine⟨_,_,by rw[List.length_map],.inr ⟨g,0,rfl,(Array.getElem?_eq_some_iff.1 hb).1,fun i x hi=>?_⟩⟩;rw[List.getElem?_map]at hi;obtain⟨y,hy,rfl⟩:=Option.map_eq_some_iff.1 hi;have key:∀j u,(C.flatMap kc)[j]? =some u→W.cell? ⟨g,0+j,none⟩=some u:=by
   intro j u hj;have:=h.cells (g:=g) rfl j u hj;(have e:(⟨g,0,none⟩:Addr).add j=⟨g,0+j,none⟩:=by simp only[Addr.add,Nat.zero_add];split<;>simp_all);rw[←e];exact this
  have k0:=dK qV C i 0 O9;have k1:=dK qV C i 1 O9;have k2:=dK qV C i 2 O9;rw[hy]at k0 k1 k2;exact⟨y.2.1,key _ _ k0,key _ _ k1,key _ _ k2,cT (hr y (List.mem_of_getElem? hy)) rfl⟩
theorem CO:(Tryz.prog.info? 91).map (fun i=>(i.zero,i.size,i.bytes))=some (some (.agg #[.string ⟨#[]⟩,.string ⟨#[]⟩,.slice none 0 0]),3,56):=K9
theorem xf:(Tryz.prog.info? 87).map (fun i=>(i.zero,i.size,i.bytes))=some (some (.agg #[.string ⟨#[]⟩,.string ⟨#[]⟩]),2,32):=K9
theorem ee(w:World):(zeroValue 39).run Tryz.prog w= .ok (.slice none 0 0) w:=K9
