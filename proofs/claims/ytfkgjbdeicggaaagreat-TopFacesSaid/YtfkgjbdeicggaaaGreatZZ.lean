/-
  The borders of a parcel, walked.
-/
import Derived.Test.YtfkgjbdeicggaaaGreatZY
set_option maxHeartbeats 32000000
set_option maxRecDepth 100000
namespace Go.Proofs.YtfkgjbdeicggaaaGreat
open Go.RowKit Go.Proofs.Px Go.Proofs.Pn Go.Proofs.Pm Go.Proofs.Pg Go.Proofs.Pto
theorem eh{P:Program}{w:World}(ts:Array TypeId)(t:TypeId)(x y:ByteArray):(Builtin.min_ ts t #[.string x,.string y]).run P w= .ok (.string (ck x y)) w:=by
 unfold ck;cases h:fK y x with
 |true=>
  have h1:Go.Op.bytesLess x.toList y.toList=false:=(gE h).1;have h2:¬x.toList=y.toList:=fun e=>(gE h).2 e.symm;simp[Builtin.min_,Builtin.min2,Op.stringOp,asBool,h1,h2]
 |false=>
  by_cases e:x=y
  ·subst e;simp[Builtin.min_,Builtin.min2,Op.stringOp,asBool]
  ·have h1:Go.Op.bytesLess x.toList y.toList=true:=gL h (fun e2=>e e2.symm);simp[Builtin.min_,Builtin.min2,Op.stringOp,asBool,h1]
theorem ehx{P:Program}{w:World}(ts:Array TypeId)(t:TypeId)(x y:ByteArray):(Builtin.max_ ts t #[.string x,.string y]).run P w= .ok (.string (eu x y)) w:=by
 unfold eu;cases h:fK x y with
 |true=>
  have h1:Go.Op.bytesLess x.toList y.toList=true:=h;simp[Builtin.max_,Builtin.max2,Op.stringOp,asBool,h1]
 |false=>
  have h1:Go.Op.bytesLess x.toList y.toList=false:=h;simp[Builtin.max_,Builtin.max2,Op.stringOp,asBool,h1]
attribute [local go_sem] Oper.semAt_some run_makeMap eh ehx
theorem eB(W:World)(v:Value)(L:List BA)(s:BA)(h:ff W v L)(hl:L.length≤100000):Calls Tryz.prog 33 #[v,.string s] W fun e w'=>e= .returned (.bool (dr s L))∧w'=W:=by
 obtain⟨A,c,rfl,_,hA⟩:=h;rcases hA with rfl|⟨g,o,rfl,_,hp⟩
 ·exact Tryz.slices_Contains_string_empty A c s W
 ·refine(Tryz.slices_Contains_string g o L.length c L s W (Nat.le_refl _) O9 (fun j hj=>?_)).mono ?_
  ·rw[List.getD_eq_getElem?_getD,List.getElem?_eq_getElem hj];exact hp j _ (List.getElem?_eq_getElem hj)
  ·rintro e w' ⟨rfl,rfl⟩;refine⟨?_,rfl⟩;congr 2;rw[Bool.eq_iff_iff,Lib.containsS_iff,List.take_length,fW]
theorem sU(l:List Ob)(hm:aZ l=true)(hsm:dZ l)(pv:Value)(w:World)(h:CL w l pv):Calls Tryz.prog 30 #[pv] w fun e w'=>∃rv,e= .returned rv∧II w' rv (bQ l)∧Below w.heap.size w w':=by
 obtain⟨i0l,hi0,hz0,hz1,hz2⟩:=aM CO;have HI0:=aa hi0;have HZ0:=aa hz0;have HZ1:=aa hz1;have HZ2:=aa hz2;clear hi0 hz0 hz1 hz2;obtain⟨j0s,hj,hy0,hy1,hy2⟩:=aM dM;have HJ0:=aa hj;have HY0:=aa hy0;have HY1:=aa hy1;have HY2:=aa hy2;clear hj hy0 hy1 hy2;obtain⟨v,bm,ml,rfl,hi,hms,hf⟩:=h;have HU:=aa (bP hm);have HM:=aa hm;have HSM:=aa hsm;have HI:=aa hi;obtain⟨A,c,rfl,_,hA⟩:=hi.obs;have HA:=aa hA;have hl20:=hsm.1;obtain⟨w1,hw1⟩:∃w1,w.alloc (.cells #[.slice A l.length c,.map (some bm)] 81)=w1:=⟨_,rfl⟩
 have hb1:Below w.heap.size w w1:=by rw[←hw1];exact(Below.refl _ _).alloc (Nat.le_refl _) _
 have hs1:w1.heap.size=w.heap.size+1:=by rw[←hw1];simp
 have hbx:w1.heap[w.heap.size]? =some (.cells #[.slice A l.length c,.map (some bm)] 81 (0,0)):=by rw[←hw1];exact heap_alloc_new w _
 have HPC:=aa (fun W (hb:Below w1.heap.size w1 W)=>(⟨.slice A l.length c,bm,ml,rfl,hi.below (aq hb1 hb),hms.kept (aI (aq hb1 hb)) (by simp),hf⟩:CL W l (.agg #[.slice A l.length c,.map (some bm)])));have HBX:=aa hbx;have HB1:=aa hb1;have HS1:=aa hs1;have HL0:Hid (DP w1 w1.heap.size [] (w1.alloc (.map #[] 0))):=aa ⟨cK _ w1,⟨fun x hx=>(by cases hx),List.Pairwise.nil⟩,(Below.refl _ _).alloc (Nat.le_refl _) _,Nat.le_refl _⟩;obtain⟨x0,x1⟩:=(aW hbx).1
 have y0:=(aW (ai ((Below.refl w1.heap.size w1).alloc (Nat.le_refl _) (.map #[] 0)) hbx)).1.1;clear hi hms hf hA hm hsm hbx hb1;clear hs1;go_enter Tryz.func30,Tryz.ntmps30;go_wp2_with fail;go_loopw [19] (fun i wr=>∃(k:Nat)(rows:List (Rw Pr)),k≤l.length∧i= .int .i64 k∧rows.length≤12*k∧Hid (bW rows (jD l (l.take k)))∧Hid (DP w1 w1.heap.size rows wr)) (fun i _=>l.length-(intOf i).toNat)
 case atStart=>exact⟨0,[],Nat.zero_le _,rfl,Nat.zero_le _,oL,HL0⟩
 case round=>
  clear HL0;obtain⟨k,rows,hk,rfl,hrl,hrr,hln⟩:=hrel;by_cases hlt:k<l.length
  ·obtain⟨g,o,rfl,hg,hp⟩:=HA.out.resolve_left (by rintro rfl;simp at hlt);obtain⟨rv,tv,hoa⟩:=hp k _ (List.getElem?_eq_getElem hlt);obtain⟨Ar,cr,hrv,_⟩:=id hoa.refs;obtain⟨At,ct,htv,_⟩:=id hoa.tags;subst hrv;subst htv;have hoa2:=hoa.below hg (aq HB1.out hln.out.below);obtain⟨c0,c1,c2,c3,c4,c5,_,_⟩:=id hoa2;have hok:=HSM.out.2 _ (List.getElem_mem hlt);have HOB:=aa (iD HM.out _ (List.getElem_mem hlt))
   have HTK:Hid (l.take (k+1)=l.take k++[l[k]]):=aa (by rw[List.take_add_one,List.getElem?_eq_getElem hlt];rfl);have HID:Hid (∀x∈l.take k,x.id≠l[k].id):=aa (fun x hx e=>by
    obtain⟨i,hi,hix⟩:=List.mem_take_iff_getElem.1 hx;have:=List.pairwise_iff_getElem.1 HU.out i k O9 hlt O9;rw[←hix]at e;exact this e)
   generalize l[k]=t at*;have k0:(0:Int)≤k:=O9;have k1:(k:Int)<l.length:=O9;have HL:=aa hlt;have HMS:=aa (show l.length-(k+1)<l.length-k from by omega);obtain⟨wo,hwo⟩:∃wo,wr.alloc (.cells #[.string t.id,.int .i64 t.kind,.int .i64 t.x,.int .i64 t.y,.slice Ar t.refs.length cr,.slice At t.tags.length ct] 47)=wo:=⟨_,rfl⟩;have hba:Below wr.heap.size wr wo:=by rw[←hwo];exact(Below.refl _ _).alloc (Nat.le_refl _) _
   (have hblk:wo.heap[wr.heap.size]? =some (.cells #[.string t.id,.int .i64 t.kind,.int .i64 t.x,.int .i64 t.y,.slice Ar t.refs.length cr,.slice At t.tags.length ct] 47 (0,0)):=by rw[←hwo];exact heap_alloc_new _ _);have HLN:=aa (hln.out.lift hba);have HST1:=aa ((hoa.below hg HB1.out).refs);have HRR:=aa hrr.out;have HBK:=aa hblk;have HRL:=aa hrl;have HOK:=aa hok
   have HND:=aa (CN l HU.out t (.slice Ar t.refs.length cr) (.slice At t.tags.length ct) _ wo (HPC.out wo (aq hln.out.below hba)) (hoa2.refs.below hba) (by have:=hok.2.1;omega) (fun s hs=>by have:=hok.2.2 s hs;omega));obtain⟨d0,d1,d2,d3,d4,d5⟩:=eE hblk;obtain⟨x0,x1⟩:=(aW (ai (aq hln.out.below hba) HBX.out)).1;clear hrl hrr hln hlt hp hoa hoa2 hok hba hblk;by_cases h2:t.kind=2
   ·have HSN:Hid (br t=t.refs.length-1):=aa (by unfold br;rw[h2];rfl);have HBO:Hid (∀b,t.refs.all (isNode l)=b→bU l t=if b=true then bw t else []):=aa (fun b hb=>by unfold bU;rw[hb,h2];cases b<;>simp);have HLE:Hid (2≤t.refs.length):=aa (by have:=ij HOB.out;rw[h2]at this;exact this);unfold eN at HND;rw[h2]at c1 d1 HBK HND hwo;obtain⟨nb,hnb⟩:∃nb,t.refs.all (isNode l)=nb:=⟨_,rfl⟩;have HBN:=aa (HBO.out nb hnb);rw[hnb]at HND;clear HBO hnb h2;go_wp2_with fail;refine HND.out.mono ?_;rintro _ w4 ⟨rfl,hb4⟩
    have HLN4:=aa (HLN.out.lift hb4);have HBK4:=aa (ai hb4 HBK.out);obtain⟨d0,d1,d2,d3,d4,d5⟩:=eE HBK4.out;clear hwo hb4 HLN HBK HND c0 c1 c2 c3 c4 c5 x0 x1;obtain⟨bo,hbo⟩:∃bo,wr.heap.size=bo:=⟨_,rfl⟩;rw[hbo]at HBK4 d0 d1 d2 d3 d4 d5 ⊢;clear hbo;cases nb with
    |false=>
     have HR9:Hid (bW rows (jD l (l.take (k+1)))):=aa (HRR.out.same (fun p=>by rw[HTK.out];exact oM HBN.out p));go_wp2_with fail;refine⟨⟨k+1,rows,HL.out,by go_num,by have:=HRL.out;omega,HR9,HLN4⟩,?_⟩;have:=HMS.out;simp[intOf];omega
    |true=>
     go_wp2_with fail;clear d0 d1 d2 d3 d4 d5;have HR0:Hid (bW rows (dY l (l.take k) t 0)):=aa (HRR.out.same (fun p=>sw _ _ _ p));go_loopw [40] (fun i wq=>∃(m:Nat)(rows2:List (Rw Pr)),m≤t.refs.length-1∧i= .int .i64 m∧rows2.length≤12*k+m∧Hid (bW rows2 (dY l (l.take k) t m))∧Hid (DP w1 w1.heap.size rows2 wq)∧Hid (wq.heap[bo]? =some (.cells #[.string t.id,.int .i64 2,.int .i64 t.x,.int .i64 t.y,.slice Ar t.refs.length cr,.slice At t.tags.length ct] 47 (0,0)))) (fun i _=>t.refs.length-(intOf i).toNat)
     case atStart=>exact⟨0,rows,Nat.zero_le _,rfl,by have:=HRL.out;omega,HR0,HLN4,HBK4⟩
     case round=>
      clear HLN4 HR0;obtain⟨m,rows2,hm,rfl,hl2,hr2,hn2,hb2⟩:=hrel;have hle:=HLE.out;obtain⟨d0,d1,d2,d3,d4,d5⟩:=eE hb2.out;by_cases hlt:m<t.refs.length-1
      ·have hdot:=hlt;obtain⟨Aq,cq,heq,_,hS⟩:=HST1.out.below hn2.out.below;rw[Value.slice.injEq]at heq;obtain⟨rfl,hnl,rfl⟩:=heq;clear hnl;obtain⟨gr,og,rfl,hgr,hps⟩:=hS.resolve_left (by intro e;rw[e]at hle;simp at hle);obtain⟨a,ha⟩:∃a,t.refs[m]? =some a:=⟨_,List.getElem?_eq_getElem O9⟩;have ca:=hps m a ha;obtain⟨b,hb⟩:∃b,t.refs[m+1]? =some b:=⟨_,List.getElem?_eq_getElem O9⟩;have cb:=hps (m+1) b hb;have m0:(0:Int)≤(m:Int):=O9;have j0:(m:Int)<(t.refs.length:Nat):=O9
       (have hm12:m≤12:=by have:=HOK.out.2.1;omega);have j1:¬(m:Int)+1=(t.refs.length:Nat):=O9;have j2:(m:Int)+1<(t.refs.length:Nat):=O9;have hrem:((m:Int)+1).tmod (t.refs.length:Nat)=(m:Int)+1:=Int.tmod_eq_of_lt O9 j2;have hn12:t.refs.length≤12:=HOK.out.2.1;have hz1:¬t.refs.length=0:=O9;have hz2:¬t.refs=[]:=fun e=>hz1 (by rw[e];rfl);clear hps hS;go_wp2_with fail;go_quiet (fail);have hkey:bC (sideAt t m)=(ck a b,eu a b):=by
        unfold sideAt;rw[Nat.mod_eq_of_lt (show m+1<t.refs.length by omega),List.getD_eq_getElem?_getD,List.getD_eq_getElem?_getD,ha,hb];rfl
       have hsa:=HOK.out.2.2 a (List.mem_of_getElem? ha);have hsb:=HOK.out.2.2 b (List.mem_of_getElem? hb);have hkok:iI (ck a b,eu a b):=by
        unfold iI ck eu;refine⟨?_,?_⟩<;>(simp only;split<;>omega)
       have HKOK:=aa hkok;have HKEY:=aa hkey;have HN3:=aa (hn2.out.lift (below_drewN wr nq));have HB3:Hid ((wr.drewN nq).heap[bo]? =some (.cells #[.string t.id,.int .i64 2,.int .i64 t.x,.int .i64 t.y,.slice (some ⟨gr,og,none⟩) t.refs.length cr,.slice At t.tags.length ct] 47 (0,0))):=aa hb2.out;have HR3:=aa hr2.out;have HMS2:=aa (show t.refs.length-(m+1)<t.refs.length-m from by omega);have HLT:=aa hlt;have HL2:=aa hl2;clear hkok hkey hn2 hb2 hr2 d0 d1 d2 d3 d4 d5 ca cb ha hb hdot hlt hl2 hrem hle
       generalize wr.drewN nq=wd at*;have hkb:=heap_alloc_new wd (.cells #[.string (ck a b),.string (eu a b)] 87);have hbk:Below wd.heap.size wd (wd.alloc (.cells #[.string (ck a b),.string (eu a b)] 87)):=(Below.refl _ _).alloc (Nat.le_refl _) _;have HN4:=aa (HN3.out.lift hbk);have HB4:=aa (ai hbk HB3.out);obtain⟨d0,d1,d2,d3,d4,d5⟩:=eE HB4.out;obtain⟨f0,f1⟩:=(aW hkb).1;have HKB:=aa hkb;clear hkb hbk HN3 HB3;go_wp2_with fail;obtain⟨kb,hkb⟩:∃kb,wd.heap.size=kb:=⟨_,rfl⟩;rw[hkb]at f0 f1 HKB ⊢;clear hkb
       generalize ck a b=ka at*;generalize eu a b=kz at*;generalize wd.alloc _=wk at*;obtain⟨pre,post,v0,hv0,hstv,hsr,hput⟩:=HN4.out.at HR3.out (ka,kz);have hlook:∀q,(Instr.lookup 169 (.map (some w1.heap.size)) (.agg #[.string ka,.string kz]) false).run Tryz.prog (wk.drewN q)= .ok v0 (wk.drewN q):=fun q=>by
        have h:=(HN4.out.map.same (w':=wk.drewN q) rfl).look Tryz.underlying169 ee (x:=(ka,kz)) HKOK.out;rw[hv0]at h;exact h
       have HGL:Hid ((dY l (l.take k) t m (ka,kz)).length≤21):=aa (by
        have h1:=kT l (l.take k) (ka,kz);rw[List.length_take]at h1;unfold dY;rw[List.length_append];split<;>simp<;>omega)
       have HCT:=aa (fun q=>eB (wk.drewN q) v0 (dY l (l.take k) t m (ka,kz)) t.id (hstv.below (below_drewN wk q)) (by have:=HGL.out;omega));have HHA:Hid (dr t.id (dY l (l.take k) t m (ka,kz))=true↔(ka,kz)∈jE t m):=aa (by rw[fW];exact qC HID.out m (ka,kz));obtain⟨Av,cv,hve,_⟩:=id hstv;subst hve;obtain⟨hb,hhb⟩:∃hb,dr t.id (dY l (l.take k) t m (ka,kz))=hb:=⟨_,rfl⟩;rw[hhb]at HCT HHA;have HSR:=aa hsr;have HPUT:=aa hput;have HV0:=aa hv0;clear hstv hsr hput hv0 hhb
       obtain⟨G0,hG0⟩:∃G0,dY l (l.take k) t m (ka,kz)=G0:=⟨_,rfl⟩;rw[hG0]at hlook HSR HPUT HV0 HGL HCT;have HG0:=aa hG0;clear hG0;go_quiet (first|(go_at_call 33;exact Calls.quiet_of_same (HCT.out _)));clear HCT hlook;have HNQ:=aa (HN4.out.lift (below_drewN wk nq));have HSQ:=aa (HSR.out.kept (aI (below_drewN wk nq)) (fun _ _ _ _=>by simp))
       have HBQ:Hid ((wk.drewN nq).heap[bo]? =some (.cells #[.string t.id,.int .i64 2,.int .i64 t.x,.int .i64 t.y,.slice (some ⟨gr,og,none⟩) t.refs.length cr,.slice At t.tags.length ct] 47 (0,0))):=aa HB4.out;have HKQ:Hid ((wk.drewN nq).heap[kb]? =some (.cells #[.string ka,.string kz] 87 (0,0))):=aa HKB.out;clear HN4 HSR HB4 HKB d0 d1 d2 d3 d4 d5 f0 f1;generalize wk.drewN nq=wx at*;obtain⟨d0,d1,d2,d3,d4,d5⟩:=eE HBQ.out;obtain⟨f0,f1⟩:=(aW HKQ.out).1;cases hb with
       |true=>
        have HR9:Hid (bW rows2 (dY l (l.take k) t (m+1))):=aa (HR3.out.same (fun p=>qA (by rw[HKEY.out];exact HHA.out.1 rfl) p));go_wp2_with fail;refine⟨⟨m+1,rows2,HLT.out,by go_num,by have:=HL2.out;omega,HR9,HNQ,HBQ⟩,?_⟩;have:=HMS2.out;simp[intOf];omega
       |false=>
        have HR9:=aa (fun v'=>by
         have h1:=(HPUT.out v' t.id).1;exact(h1.same (fun p=>by rw[qB (by rw[HKEY.out];exact fun e=>by have:=HHA.out.2 e;cases this) p,HKEY.out,HG0.out]):bW (pre++((ka,kz),v',G0++[t.id])::post) (dY l (l.take k) t (m+1))))
        have hba:Below wx.heap.size wx (wx.alloc (.cells #[.string t.id] 9)):=(Below.refl _ _).alloc (Nat.le_refl _) _;have HNA:=aa (HNQ.out.lift hba);have HSA:=aa (HSQ.out.kept (aI hba) (fun _ _ _ _=>by simp));obtain⟨st,w5,hme,hg5,hs5,_,hmb5,hback⟩:=HNA.out.map.entry fu Tryz.underlying169 ee (by unfold keyed;rw[List.length_map];have:=HL2.out;have:=HOK.out.2.1;unfold maxLen;omega) (x:=(ka,kz)) HKOK.out;rw[HV0.out]at hme
        change (Instr.mapEntry 169 (.map (some w1.heap.size)) (.agg #[.string ka,.string kz])).run _ _= .ok (.tuple #[_,.int .i64 (st:Int)]) _ at hme;have hnew:=heap_alloc_new wx (.cells #[.string t.id] 9);have hne:∀x∈pre.map Prod.snd++((.slice Av G0.length cv:Value),G0)::post.map Prod.snd,∀b,x.1.ownBlock=some b→some w1.heap.size≠some b:=fun x hx b hb e=>by
         cases e;exact aH (HSA.out.row x hx) (aC HNA.out.map) hb
        have HS5:=aa (HSA.out.kept hg5 hne);have HROW:=aa (HS5.out.row _ (List.mem_append_right _ (List.mem_cons_self ..)));have HN5:Hid (w5.heap[wx.heap.size]? =some (.cells #[.string t.id] 9 (0,0))):=aa ((hg5.block _ (lt_of_block hnew) (fun e=>by
         obtain⟨es,c',hmm⟩:=aC HNA.out.map;rw[Option.some.inj e,hmm]at hnew;cases hnew)).trans hnew)
        have HB5:Hid (w5.heap[bo]? =some (.cells #[.string t.id,.int .i64 2,.int .i64 t.x,.int .i64 t.y,.slice (some ⟨gr,og,none⟩) t.refs.length cr,.slice At t.tags.length ct] 47 (0,0))):=aa ((hg5.block _ (lt_of_block (ai hba HBQ.out)) (fun e=>by
         obtain⟨es,c',hmm⟩:=aC HNA.out.map;have hbq:=ai hba HBQ.out;rw[Option.some.inj e,hmm]at hbq;cases hbq)).trans (ai hba HBQ.out))
        have HW5:Hid (Below w1.heap.size w1 w5):=aa (ak HNA.out.below hg5 (fun r hr=>by cases hr;exact HNA.out.lo));have HBACK:=aa hback;have HMB:=aa hmb5;have HSZ5:Hid (w5.heap.size=wx.heap.size+1):=aa (by rw[hs5];simp);clear hback hg5 hs5 hmb5 hnew hne hba HNA HSA HNQ HSQ HBQ HKQ HR3;obtain⟨xs,hxs⟩:∃xs,wx.heap.size=xs:=⟨_,rfl⟩;rw[hxs]at HN5 HSZ5
        go_wp2_with (at_builtin;go_must (refine wpList_append_lies _ rfl (.tmp 82) (.tmp 85) 39 rfl w1.heap.size 9 j0s (.string ⟨#[]⟩) 1 16 Tryz.underlying39 HJ0.out HY0.out HY1.out HY2.out rfl (by decide) (.slice Av G0.length cv) G0.length (G0.map .string) rfl ?c0 ⟨xs,0,none⟩ 1 1 [.string t.id] rfl rfl ?c1 ?c2 (by decide) ?c3 ?c4 ?c5 w5.heap.size ?c6 ?_))
        case c0=>exact HROW.out
        case c1=>intro j u hj;(by_cases e:j=0<;>simpa[Addr.add,e]using World.news_of_block (cs:=#[.string t.id]) (t:=9) (fr:=(0,0)) HN5.out j u hj)
        case c2=>first|rfl|(intro u hu;simp at hu;rw[hu];rfl)
        case c3=>have:=HGL.out;unfold maxLen;omega
        case c4=>have:=HGL.out;omega
        case c5=>exact HW5.out.size
        case c6=>rfl
        intro g9 cap w9 hown9 hgrow9 hat9 _;have hrow9:w9.ownsRow w1.heap.size 9 1 (.slice (some ⟨g9,0,none⟩) (G0.length+1) cap) (G0++[t.id]).length ((G0++[t.id]).map .string):=by
         rw[List.length_append,List.map_append];exact hown9
        have HS9:=aa (HS5.out.grow (x':=(.slice (some ⟨g9,0,none⟩) (G0.length+1) cap,G0++[t.id])) hgrow9 (.inr rfl) hrow9 (fun b hb=>by
         have hbg:g9=b:=Option.some.inj hb;subst hbg;rcases hat9 with h|h
         ·exact .inl h
         ·exact .inr (Nat.le_of_eq h.symm)))
        have hm9:w9.heap[w1.heap.size]? =w5.heap[w1.heap.size]? :=hgrow9.block _ (by obtain⟨_,_,h⟩:=HMB.out;exact lt_of_block h) (fun e=>aH HROW.out HMB.out e.symm);obtain⟨w10,hst10,hml10,hg10,hs10⟩:=HBACK.out w9 (.slice (some ⟨g9,0,none⟩) (G0.length+1) cap) hm9;change (Instr.entryStore 169 (.map (some w1.heap.size)) (.int .i64 (st:Int)) (.slice (some ⟨g9,0,none⟩) (G0.length+1) cap)).run _ _= .ok () _ at hst10;have hmb9:∃es c,w9.heap[w1.heap.size]? =some (.map es c):=by
         obtain⟨es,c',h⟩:=HMB.out;exact⟨es,c',hm9.trans h⟩
        have HW9:=ak HW5.out hgrow9 (fun r hr=>(aj HROW.out hr).1);have HN10:Hid (DP w1 w1.heap.size (pre++((ka,kz),.slice (some ⟨g9,0,none⟩) (G0.length+1) cap,G0++[t.id])::post) w10):=by
         refine aa ⟨?_,?_,ak HW9 hg10 (fun r hr=>by cases hr;exact Nat.le_refl _),Nat.le_refl _⟩
         ·rw[←(HPUT.out (.slice (some ⟨g9,0,none⟩) (G0.length+1) cap) t.id).2.1];exact hml10
         ·rw[List.map_append,List.map_cons];exact HS9.out.kept hg10 (fun x hx b hb e=>aH (HS9.out.row x hx) hmb9 (by rw[hb];exact e.symm))
        have hb9:=(hgrow9.block _ (lt_of_block HB5.out) (eA HROW.out HB5.out (by decide))).trans HB5.out;have HB10:Hid (w10.heap[bo]? =some (.cells #[.string t.id,.int .i64 2,.int .i64 t.x,.int .i64 t.y,.slice (some ⟨gr,og,none⟩) t.refs.length cr,.slice At t.tags.length ct] 47 (0,0))):=aa ((hg10.block _ (lt_of_block hb9) (fun e=>by
         obtain⟨es,c',hmm⟩:=hmb9;rw[Option.some.inj e,hmm]at hb9;cases hb9)).trans hb9)
        have HPL:=aa (HPUT.out (.slice (some ⟨g9,0,none⟩) (G0.length+1) cap) t.id).2.2;have HRX:=aa (HR9.out (.slice (some ⟨g9,0,none⟩) (G0.length+1) cap));clear hxs hown9 hgrow9 hat9 hrow9 hm9 hml10 hg10 hs10 hmb9 HW9 hb9 HS9 HBACK HMB HROW HS5 HB5 HN5 HPUT HR9 HW5;go_wp2_with fail;refine⟨⟨m+1,_,HLT.out,by go_num,by have:=HL2.out;have:=HPL.out;omega,HRX,HN10,HB10⟩,?_⟩;have:=HMS2.out;simp[intOf];omega
      ·have HSN9:Hid (br t=m):=aa (by rw[HSN.out];omega);have j0:(m:Int)<(t.refs.length:Nat):=O9;have j1:(m:Int)+1≤(t.refs.length:Nat):=O9;have j2:(t.refs.length:Nat)≤(m:Int)+1:=O9;have hn12:t.refs.length≤12:=HOK.out.2.1;have m0:(0:Int)≤(m:Int):=O9;obtain⟨Aq,cq,heq,_,hS⟩:=HST1.out.below hn2.out.below;rw[Value.slice.injEq]at heq;obtain⟨rfl,hnl,rfl⟩:=heq;clear hnl;obtain⟨gr,og,rfl,hgr,hps⟩:=hS.resolve_left (by intro e;rw[e]at hle;simp at hle)
       obtain⟨a,ha⟩:∃a,t.refs[m]? =some a:=⟨_,List.getElem?_eq_getElem O9⟩;have ca:=hps m a ha;clear hps hS ha;clear hb2 hlt hle;have HR9:Hid (bW rows2 (jD l (l.take (k+1)))):=aa (hr2.out.same (fun p=>by rw[HTK.out,←HSN9.out];exact(vM HBN.out p).symm));have HN9:=aa hn2.out;have HL9:Hid (rows2.length≤12*(k+1)):=aa (by have:=HOK.out.2.1;omega);clear hr2 hn2;go_wp2_with fail;refine⟨⟨k+1,rows2,HL.out,by go_num,HL9.out,HR9,HN9⟩,?_⟩;have:=HMS.out;simp[intOf];omega
   by_cases h3:t.kind=3
   ·have HSN:Hid (br t=t.refs.length):=aa (by unfold br;rw[h3];rfl);have HBO:Hid (∀b,t.refs.all (isNode l)=b→bU l t=if b=true then bw t else []):=aa (fun b hb=>by unfold bU;rw[hb,h3];cases b<;>simp);have HLE:Hid (3≤t.refs.length):=aa (by have:=ij HOB.out;rw[h3]at this;exact this);unfold eN at HND;rw[h3]at c1 d1 HBK HND hwo;obtain⟨nb,hnb⟩:∃nb,t.refs.all (isNode l)=nb:=⟨_,rfl⟩;have HBN:=aa (HBO.out nb hnb);rw[hnb]at HND;clear HBO hnb h3;go_wp2_with fail;refine HND.out.mono ?_;rintro _ w4 ⟨rfl,hb4⟩
    have HLN4:=aa (HLN.out.lift hb4);have HBK4:=aa (ai hb4 HBK.out);obtain⟨d0,d1,d2,d3,d4,d5⟩:=eE HBK4.out;clear hwo hb4 HLN HBK HND c0 c1 c2 c3 c4 c5 x0 x1;obtain⟨bo,hbo⟩:∃bo,wr.heap.size=bo:=⟨_,rfl⟩;rw[hbo]at HBK4 d0 d1 d2 d3 d4 d5 ⊢;clear hbo;cases nb with
    |false=>
     have HR9:Hid (bW rows (jD l (l.take (k+1)))):=aa (HRR.out.same (fun p=>by rw[HTK.out];exact oM HBN.out p));go_wp2_with fail;refine⟨⟨k+1,rows,HL.out,by go_num,by have:=HRL.out;omega,HR9,HLN4⟩,?_⟩;have:=HMS.out;simp[intOf];omega
    |true=>
     go_wp2_with fail;clear d0 d1 d2 d3 d4 d5;have HR0:Hid (bW rows (dY l (l.take k) t 0)):=aa (HRR.out.same (fun p=>sw _ _ _ p));go_loopw [40] (fun i wq=>∃(m:Nat)(rows2:List (Rw Pr)),m≤t.refs.length∧i= .int .i64 m∧rows2.length≤12*k+m∧Hid (bW rows2 (dY l (l.take k) t m))∧Hid (DP w1 w1.heap.size rows2 wq)∧Hid (wq.heap[bo]? =some (.cells #[.string t.id,.int .i64 3,.int .i64 t.x,.int .i64 t.y,.slice Ar t.refs.length cr,.slice At t.tags.length ct] 47 (0,0)))) (fun i _=>t.refs.length-(intOf i).toNat)
     case atStart=>exact⟨0,rows,Nat.zero_le _,rfl,by have:=HRL.out;omega,HR0,HLN4,HBK4⟩
     case round=>
      clear HLN4 HR0;obtain⟨m,rows2,hm,rfl,hl2,hr2,hn2,hb2⟩:=hrel;have hle:=HLE.out;obtain⟨d0,d1,d2,d3,d4,d5⟩:=eE hb2.out;by_cases hlt:m<t.refs.length
      ·by_cases hl1:m+1<t.refs.length
       ·have hdot:=hl1;obtain⟨Aq,cq,heq,_,hS⟩:=HST1.out.below hn2.out.below;rw[Value.slice.injEq]at heq;obtain⟨rfl,hnl,rfl⟩:=heq;clear hnl;obtain⟨gr,og,rfl,hgr,hps⟩:=hS.resolve_left (by intro e;rw[e]at hle;simp at hle);obtain⟨a,ha⟩:∃a,t.refs[m]? =some a:=⟨_,List.getElem?_eq_getElem O9⟩;have ca:=hps m a ha;obtain⟨b,hb⟩:∃b,t.refs[m+1]? =some b:=⟨_,List.getElem?_eq_getElem O9⟩;have cb:=hps (m+1) b hb;have m0:(0:Int)≤(m:Int):=O9;have j0:(m:Int)<(t.refs.length:Nat):=O9
        (have hm12:m≤12:=by have:=HOK.out.2.1;omega);have j1:¬(m:Int)+1=(t.refs.length:Nat):=O9;have j2:(m:Int)+1<(t.refs.length:Nat):=O9;have hrem:((m:Int)+1).tmod (t.refs.length:Nat)=(m:Int)+1:=Int.tmod_eq_of_lt O9 j2;have hn12:t.refs.length≤12:=HOK.out.2.1;have hz1:¬t.refs.length=0:=O9;have hz2:¬t.refs=[]:=fun e=>hz1 (by rw[e];rfl);clear hps hS;go_wp2_with fail;go_quiet (fail);have hkey:bC (sideAt t m)=(ck a b,eu a b):=by
         unfold sideAt;rw[Nat.mod_eq_of_lt (show m+1<t.refs.length by omega),List.getD_eq_getElem?_getD,List.getD_eq_getElem?_getD,ha,hb];rfl
        have hsa:=HOK.out.2.2 a (List.mem_of_getElem? ha);have hsb:=HOK.out.2.2 b (List.mem_of_getElem? hb);have hkok:iI (ck a b,eu a b):=by
         unfold iI ck eu;refine⟨?_,?_⟩<;>(simp only;split<;>omega)
        have HKOK:=aa hkok;have HKEY:=aa hkey;have HN3:=aa (hn2.out.lift (below_drewN wr nq));have HB3:Hid ((wr.drewN nq).heap[bo]? =some (.cells #[.string t.id,.int .i64 3,.int .i64 t.x,.int .i64 t.y,.slice (some ⟨gr,og,none⟩) t.refs.length cr,.slice At t.tags.length ct] 47 (0,0))):=aa hb2.out;have HR3:=aa hr2.out;have HMS2:=aa (show t.refs.length-(m+1)<t.refs.length-m from by omega);have HLT:=aa hlt;have HL2:=aa hl2;clear hkok hkey hn2 hb2 hr2 d0 d1 d2 d3 d4 d5 ca cb ha hb hdot hlt hl2 hrem hle
        generalize wr.drewN nq=wd at*;have hkb:=heap_alloc_new wd (.cells #[.string (ck a b),.string (eu a b)] 87);have hbk:Below wd.heap.size wd (wd.alloc (.cells #[.string (ck a b),.string (eu a b)] 87)):=(Below.refl _ _).alloc (Nat.le_refl _) _;have HN4:=aa (HN3.out.lift hbk);have HB4:=aa (ai hbk HB3.out);obtain⟨d0,d1,d2,d3,d4,d5⟩:=eE HB4.out;obtain⟨f0,f1⟩:=(aW hkb).1;have HKB:=aa hkb;clear hkb hbk HN3 HB3;go_wp2_with fail;obtain⟨kb,hkb⟩:∃kb,wd.heap.size=kb:=⟨_,rfl⟩;rw[hkb]at f0 f1 HKB ⊢;clear hkb
        generalize ck a b=ka at*;generalize eu a b=kz at*;generalize wd.alloc _=wk at*;obtain⟨pre,post,v0,hv0,hstv,hsr,hput⟩:=HN4.out.at HR3.out (ka,kz);have hlook:∀q,(Instr.lookup 169 (.map (some w1.heap.size)) (.agg #[.string ka,.string kz]) false).run Tryz.prog (wk.drewN q)= .ok v0 (wk.drewN q):=fun q=>by
         have h:=(HN4.out.map.same (w':=wk.drewN q) rfl).look Tryz.underlying169 ee (x:=(ka,kz)) HKOK.out;rw[hv0]at h;exact h
        have HGL:Hid ((dY l (l.take k) t m (ka,kz)).length≤21):=aa (by
         have h1:=kT l (l.take k) (ka,kz);rw[List.length_take]at h1;unfold dY;rw[List.length_append];split<;>simp<;>omega)
        have HCT:=aa (fun q=>eB (wk.drewN q) v0 (dY l (l.take k) t m (ka,kz)) t.id (hstv.below (below_drewN wk q)) (by have:=HGL.out;omega));have HHA:Hid (dr t.id (dY l (l.take k) t m (ka,kz))=true↔(ka,kz)∈jE t m):=aa (by rw[fW];exact qC HID.out m (ka,kz));obtain⟨Av,cv,hve,_⟩:=id hstv;subst hve;obtain⟨hb,hhb⟩:∃hb,dr t.id (dY l (l.take k) t m (ka,kz))=hb:=⟨_,rfl⟩;rw[hhb]at HCT HHA;have HSR:=aa hsr;have HPUT:=aa hput;have HV0:=aa hv0;clear hstv hsr hput hv0 hhb
        obtain⟨G0,hG0⟩:∃G0,dY l (l.take k) t m (ka,kz)=G0:=⟨_,rfl⟩;rw[hG0]at hlook HSR HPUT HV0 HGL HCT;have HG0:=aa hG0;clear hG0;go_quiet (first|(go_at_call 33;exact Calls.quiet_of_same (HCT.out _)));clear HCT hlook;have HNQ:=aa (HN4.out.lift (below_drewN wk nq));have HSQ:=aa (HSR.out.kept (aI (below_drewN wk nq)) (fun _ _ _ _=>by simp))
        have HBQ:Hid ((wk.drewN nq).heap[bo]? =some (.cells #[.string t.id,.int .i64 3,.int .i64 t.x,.int .i64 t.y,.slice (some ⟨gr,og,none⟩) t.refs.length cr,.slice At t.tags.length ct] 47 (0,0))):=aa HB4.out;have HKQ:Hid ((wk.drewN nq).heap[kb]? =some (.cells #[.string ka,.string kz] 87 (0,0))):=aa HKB.out;clear HN4 HSR HB4 HKB d0 d1 d2 d3 d4 d5 f0 f1;generalize wk.drewN nq=wx at*;obtain⟨d0,d1,d2,d3,d4,d5⟩:=eE HBQ.out;obtain⟨f0,f1⟩:=(aW HKQ.out).1;cases hb with
        |true=>
         have HR9:Hid (bW rows2 (dY l (l.take k) t (m+1))):=aa (HR3.out.same (fun p=>qA (by rw[HKEY.out];exact HHA.out.1 rfl) p));go_wp2_with fail;refine⟨⟨m+1,rows2,HLT.out,by go_num,by have:=HL2.out;omega,HR9,HNQ,HBQ⟩,?_⟩;have:=HMS2.out;simp[intOf];omega
        |false=>
         have HR9:=aa (fun v'=>by
          have h1:=(HPUT.out v' t.id).1;exact(h1.same (fun p=>by rw[qB (by rw[HKEY.out];exact fun e=>by have:=HHA.out.2 e;cases this) p,HKEY.out,HG0.out]):bW (pre++((ka,kz),v',G0++[t.id])::post) (dY l (l.take k) t (m+1))))
         have hba:Below wx.heap.size wx (wx.alloc (.cells #[.string t.id] 9)):=(Below.refl _ _).alloc (Nat.le_refl _) _;have HNA:=aa (HNQ.out.lift hba);have HSA:=aa (HSQ.out.kept (aI hba) (fun _ _ _ _=>by simp));obtain⟨st,w5,hme,hg5,hs5,_,hmb5,hback⟩:=HNA.out.map.entry fu Tryz.underlying169 ee (by unfold keyed;rw[List.length_map];have:=HL2.out;have:=HOK.out.2.1;unfold maxLen;omega) (x:=(ka,kz)) HKOK.out;rw[HV0.out]at hme
         change (Instr.mapEntry 169 (.map (some w1.heap.size)) (.agg #[.string ka,.string kz])).run _ _= .ok (.tuple #[_,.int .i64 (st:Int)]) _ at hme;have hnew:=heap_alloc_new wx (.cells #[.string t.id] 9);have hne:∀x∈pre.map Prod.snd++((.slice Av G0.length cv:Value),G0)::post.map Prod.snd,∀b,x.1.ownBlock=some b→some w1.heap.size≠some b:=fun x hx b hb e=>by
          cases e;exact aH (HSA.out.row x hx) (aC HNA.out.map) hb
         have HS5:=aa (HSA.out.kept hg5 hne);have HROW:=aa (HS5.out.row _ (List.mem_append_right _ (List.mem_cons_self ..)));have HN5:Hid (w5.heap[wx.heap.size]? =some (.cells #[.string t.id] 9 (0,0))):=aa ((hg5.block _ (lt_of_block hnew) (fun e=>by
          obtain⟨es,c',hmm⟩:=aC HNA.out.map;rw[Option.some.inj e,hmm]at hnew;cases hnew)).trans hnew)
         have HB5:Hid (w5.heap[bo]? =some (.cells #[.string t.id,.int .i64 3,.int .i64 t.x,.int .i64 t.y,.slice (some ⟨gr,og,none⟩) t.refs.length cr,.slice At t.tags.length ct] 47 (0,0))):=aa ((hg5.block _ (lt_of_block (ai hba HBQ.out)) (fun e=>by
          obtain⟨es,c',hmm⟩:=aC HNA.out.map;have hbq:=ai hba HBQ.out;rw[Option.some.inj e,hmm]at hbq;cases hbq)).trans (ai hba HBQ.out))
         have HW5:Hid (Below w1.heap.size w1 w5):=aa (ak HNA.out.below hg5 (fun r hr=>by cases hr;exact HNA.out.lo));have HBACK:=aa hback;have HMB:=aa hmb5;have HSZ5:Hid (w5.heap.size=wx.heap.size+1):=aa (by rw[hs5];simp);clear hback hg5 hs5 hmb5 hnew hne hba HNA HSA HNQ HSQ HBQ HKQ HR3;obtain⟨xs,hxs⟩:∃xs,wx.heap.size=xs:=⟨_,rfl⟩;rw[hxs]at HN5 HSZ5
         go_wp2_with (at_builtin;go_must (refine wpList_append_lies _ rfl (.tmp 82) (.tmp 85) 39 rfl w1.heap.size 9 j0s (.string ⟨#[]⟩) 1 16 Tryz.underlying39 HJ0.out HY0.out HY1.out HY2.out rfl (by decide) (.slice Av G0.length cv) G0.length (G0.map .string) rfl ?c0 ⟨xs,0,none⟩ 1 1 [.string t.id] rfl rfl ?c1 ?c2 (by decide) ?c3 ?c4 ?c5 w5.heap.size ?c6 ?_))
         case c0=>exact HROW.out
         case c1=>intro j u hj;(by_cases e:j=0<;>simpa[Addr.add,e]using World.news_of_block (cs:=#[.string t.id]) (t:=9) (fr:=(0,0)) HN5.out j u hj)
         case c2=>first|rfl|(intro u hu;simp at hu;rw[hu];rfl)
         case c3=>have:=HGL.out;unfold maxLen;omega
         case c4=>have:=HGL.out;omega
         case c5=>exact HW5.out.size
         case c6=>rfl
         intro g9 cap w9 hown9 hgrow9 hat9 _;have hrow9:w9.ownsRow w1.heap.size 9 1 (.slice (some ⟨g9,0,none⟩) (G0.length+1) cap) (G0++[t.id]).length ((G0++[t.id]).map .string):=by
          rw[List.length_append,List.map_append];exact hown9
         have HS9:=aa (HS5.out.grow (x':=(.slice (some ⟨g9,0,none⟩) (G0.length+1) cap,G0++[t.id])) hgrow9 (.inr rfl) hrow9 (fun b hb=>by
          have hbg:g9=b:=Option.some.inj hb;subst hbg;rcases hat9 with h|h
          ·exact .inl h
          ·exact .inr (Nat.le_of_eq h.symm)))
         have hm9:w9.heap[w1.heap.size]? =w5.heap[w1.heap.size]? :=hgrow9.block _ (by obtain⟨_,_,h⟩:=HMB.out;exact lt_of_block h) (fun e=>aH HROW.out HMB.out e.symm);obtain⟨w10,hst10,hml10,hg10,hs10⟩:=HBACK.out w9 (.slice (some ⟨g9,0,none⟩) (G0.length+1) cap) hm9;change (Instr.entryStore 169 (.map (some w1.heap.size)) (.int .i64 (st:Int)) (.slice (some ⟨g9,0,none⟩) (G0.length+1) cap)).run _ _= .ok () _ at hst10;have hmb9:∃es c,w9.heap[w1.heap.size]? =some (.map es c):=by
          obtain⟨es,c',h⟩:=HMB.out;exact⟨es,c',hm9.trans h⟩
         have HW9:=ak HW5.out hgrow9 (fun r hr=>(aj HROW.out hr).1);have HN10:Hid (DP w1 w1.heap.size (pre++((ka,kz),.slice (some ⟨g9,0,none⟩) (G0.length+1) cap,G0++[t.id])::post) w10):=by
          refine aa ⟨?_,?_,ak HW9 hg10 (fun r hr=>by cases hr;exact Nat.le_refl _),Nat.le_refl _⟩
          ·rw[←(HPUT.out (.slice (some ⟨g9,0,none⟩) (G0.length+1) cap) t.id).2.1];exact hml10
          ·rw[List.map_append,List.map_cons];exact HS9.out.kept hg10 (fun x hx b hb e=>aH (HS9.out.row x hx) hmb9 (by rw[hb];exact e.symm))
         have hb9:=(hgrow9.block _ (lt_of_block HB5.out) (eA HROW.out HB5.out (by decide))).trans HB5.out;have HB10:Hid (w10.heap[bo]? =some (.cells #[.string t.id,.int .i64 3,.int .i64 t.x,.int .i64 t.y,.slice (some ⟨gr,og,none⟩) t.refs.length cr,.slice At t.tags.length ct] 47 (0,0))):=aa ((hg10.block _ (lt_of_block hb9) (fun e=>by
          obtain⟨es,c',hmm⟩:=hmb9;rw[Option.some.inj e,hmm]at hb9;cases hb9)).trans hb9)
         have HPL:=aa (HPUT.out (.slice (some ⟨g9,0,none⟩) (G0.length+1) cap) t.id).2.2;have HRX:=aa (HR9.out (.slice (some ⟨g9,0,none⟩) (G0.length+1) cap));clear hxs hown9 hgrow9 hat9 hrow9 hm9 hml10 hg10 hs10 hmb9 HW9 hb9 HS9 HBACK HMB HROW HS5 HB5 HN5 HPUT HR9 HW5;go_wp2_with fail;refine⟨⟨m+1,_,HLT.out,by go_num,by have:=HL2.out;have:=HPL.out;omega,HRX,HN10,HB10⟩,?_⟩;have:=HMS2.out;simp[intOf];omega
       ·(have hl1':m+1=t.refs.length:=by omega);have hdot:=hl1';obtain⟨Aq,cq,heq,_,hS⟩:=HST1.out.below hn2.out.below;rw[Value.slice.injEq]at heq;obtain⟨rfl,hnl,rfl⟩:=heq;clear hnl;obtain⟨gr,og,rfl,hgr,hps⟩:=hS.resolve_left (by intro e;rw[e]at hle;simp at hle);obtain⟨a,ha⟩:∃a,t.refs[m]? =some a:=⟨_,List.getElem?_eq_getElem O9⟩;have ca:=hps m a ha;obtain⟨b,hb⟩:∃b,t.refs[0]? =some b:=⟨_,List.getElem?_eq_getElem O9⟩;have cb:=hps (0) b hb;have m0:(0:Int)≤(m:Int):=O9;have j0:(m:Int)<(t.refs.length:Nat):=O9
        (have hm12:m≤12:=by have:=HOK.out.2.1;omega);have j1:(m:Int)+1≤(t.refs.length:Nat):=O9;have j2:(t.refs.length:Nat)≤(m:Int)+1:=O9;have j3:(0:Int)<(t.refs.length:Nat):=O9;have j4:0<t.refs.length:=O9;have cb':wr.cell? ⟨gr,og,none⟩=some (.string b):=cb;(have hrem:((m:Int)+1).tmod (t.refs.length:Nat)=0:=by rw[show(m:Int)+1=((t.refs.length:Nat):Int)by omega];exact Int.tmod_self);have hn12:t.refs.length≤12:=HOK.out.2.1;have hz1:¬t.refs.length=0:=O9;have hz2:¬t.refs=[]:=fun e=>hz1 (by rw[e];rfl)
        clear hps hS;go_wp2_with fail;go_quiet (fail);have hkey:bC (sideAt t m)=(ck a b,eu a b):=by
         unfold sideAt;rw[hl1',Nat.mod_self,List.getD_eq_getElem?_getD,List.getD_eq_getElem?_getD,ha,hb];rfl
        have hsa:=HOK.out.2.2 a (List.mem_of_getElem? ha);have hsb:=HOK.out.2.2 b (List.mem_of_getElem? hb);have hkok:iI (ck a b,eu a b):=by
         unfold iI ck eu;refine⟨?_,?_⟩<;>(simp only;split<;>omega)
        have HKOK:=aa hkok;have HKEY:=aa hkey;have HN3:=aa (hn2.out.lift (below_drewN wr nq));have HB3:Hid ((wr.drewN nq).heap[bo]? =some (.cells #[.string t.id,.int .i64 3,.int .i64 t.x,.int .i64 t.y,.slice (some ⟨gr,og,none⟩) t.refs.length cr,.slice At t.tags.length ct] 47 (0,0))):=aa hb2.out;have HR3:=aa hr2.out;have HMS2:=aa (show t.refs.length-(m+1)<t.refs.length-m from by omega);have HLT:=aa hlt;have HL2:=aa hl2;clear hkok hkey hn2 hb2 hr2 d0 d1 d2 d3 d4 d5 ca cb ha hb hdot hlt hl2 hrem hle
        generalize wr.drewN nq=wd at*;have hkb:=heap_alloc_new wd (.cells #[.string (ck a b),.string (eu a b)] 87);have hbk:Below wd.heap.size wd (wd.alloc (.cells #[.string (ck a b),.string (eu a b)] 87)):=(Below.refl _ _).alloc (Nat.le_refl _) _;have HN4:=aa (HN3.out.lift hbk);have HB4:=aa (ai hbk HB3.out);obtain⟨d0,d1,d2,d3,d4,d5⟩:=eE HB4.out;obtain⟨f0,f1⟩:=(aW hkb).1;have HKB:=aa hkb;clear hkb hbk HN3 HB3;go_wp2_with fail;obtain⟨kb,hkb⟩:∃kb,wd.heap.size=kb:=⟨_,rfl⟩;rw[hkb]at f0 f1 HKB ⊢;clear hkb
        generalize ck a b=ka at*;generalize eu a b=kz at*;generalize wd.alloc _=wk at*;obtain⟨pre,post,v0,hv0,hstv,hsr,hput⟩:=HN4.out.at HR3.out (ka,kz);have hlook:∀q,(Instr.lookup 169 (.map (some w1.heap.size)) (.agg #[.string ka,.string kz]) false).run Tryz.prog (wk.drewN q)= .ok v0 (wk.drewN q):=fun q=>by
         have h:=(HN4.out.map.same (w':=wk.drewN q) rfl).look Tryz.underlying169 ee (x:=(ka,kz)) HKOK.out;rw[hv0]at h;exact h
        have HGL:Hid ((dY l (l.take k) t m (ka,kz)).length≤21):=aa (by
         have h1:=kT l (l.take k) (ka,kz);rw[List.length_take]at h1;unfold dY;rw[List.length_append];split<;>simp<;>omega)
        have HCT:=aa (fun q=>eB (wk.drewN q) v0 (dY l (l.take k) t m (ka,kz)) t.id (hstv.below (below_drewN wk q)) (by have:=HGL.out;omega));have HHA:Hid (dr t.id (dY l (l.take k) t m (ka,kz))=true↔(ka,kz)∈jE t m):=aa (by rw[fW];exact qC HID.out m (ka,kz));obtain⟨Av,cv,hve,_⟩:=id hstv;subst hve;obtain⟨hb,hhb⟩:∃hb,dr t.id (dY l (l.take k) t m (ka,kz))=hb:=⟨_,rfl⟩;rw[hhb]at HCT HHA;have HSR:=aa hsr;have HPUT:=aa hput;have HV0:=aa hv0;clear hstv hsr hput hv0 hhb
        obtain⟨G0,hG0⟩:∃G0,dY l (l.take k) t m (ka,kz)=G0:=⟨_,rfl⟩;rw[hG0]at hlook HSR HPUT HV0 HGL HCT;have HG0:=aa hG0;clear hG0;go_quiet (first|(go_at_call 33;exact Calls.quiet_of_same (HCT.out _)));clear HCT hlook;have HNQ:=aa (HN4.out.lift (below_drewN wk nq));have HSQ:=aa (HSR.out.kept (aI (below_drewN wk nq)) (fun _ _ _ _=>by simp))
        have HBQ:Hid ((wk.drewN nq).heap[bo]? =some (.cells #[.string t.id,.int .i64 3,.int .i64 t.x,.int .i64 t.y,.slice (some ⟨gr,og,none⟩) t.refs.length cr,.slice At t.tags.length ct] 47 (0,0))):=aa HB4.out;have HKQ:Hid ((wk.drewN nq).heap[kb]? =some (.cells #[.string ka,.string kz] 87 (0,0))):=aa HKB.out;clear HN4 HSR HB4 HKB d0 d1 d2 d3 d4 d5 f0 f1;generalize wk.drewN nq=wx at*;obtain⟨d0,d1,d2,d3,d4,d5⟩:=eE HBQ.out;obtain⟨f0,f1⟩:=(aW HKQ.out).1;cases hb with
        |true=>
         have HR9:Hid (bW rows2 (dY l (l.take k) t (m+1))):=aa (HR3.out.same (fun p=>qA (by rw[HKEY.out];exact HHA.out.1 rfl) p));go_wp2_with fail;refine⟨⟨m+1,rows2,HLT.out,by go_num,by have:=HL2.out;omega,HR9,HNQ,HBQ⟩,?_⟩;have:=HMS2.out;simp[intOf];omega
        |false=>
         have HR9:=aa (fun v'=>by
          have h1:=(HPUT.out v' t.id).1;exact(h1.same (fun p=>by rw[qB (by rw[HKEY.out];exact fun e=>by have:=HHA.out.2 e;cases this) p,HKEY.out,HG0.out]):bW (pre++((ka,kz),v',G0++[t.id])::post) (dY l (l.take k) t (m+1))))
         have hba:Below wx.heap.size wx (wx.alloc (.cells #[.string t.id] 9)):=(Below.refl _ _).alloc (Nat.le_refl _) _;have HNA:=aa (HNQ.out.lift hba);have HSA:=aa (HSQ.out.kept (aI hba) (fun _ _ _ _=>by simp));obtain⟨st,w5,hme,hg5,hs5,_,hmb5,hback⟩:=HNA.out.map.entry fu Tryz.underlying169 ee (by unfold keyed;rw[List.length_map];have:=HL2.out;have:=HOK.out.2.1;unfold maxLen;omega) (x:=(ka,kz)) HKOK.out;rw[HV0.out]at hme
         change (Instr.mapEntry 169 (.map (some w1.heap.size)) (.agg #[.string ka,.string kz])).run _ _= .ok (.tuple #[_,.int .i64 (st:Int)]) _ at hme;have hnew:=heap_alloc_new wx (.cells #[.string t.id] 9);have hne:∀x∈pre.map Prod.snd++((.slice Av G0.length cv:Value),G0)::post.map Prod.snd,∀b,x.1.ownBlock=some b→some w1.heap.size≠some b:=fun x hx b hb e=>by
          cases e;exact aH (HSA.out.row x hx) (aC HNA.out.map) hb
         have HS5:=aa (HSA.out.kept hg5 hne);have HROW:=aa (HS5.out.row _ (List.mem_append_right _ (List.mem_cons_self ..)));have HN5:Hid (w5.heap[wx.heap.size]? =some (.cells #[.string t.id] 9 (0,0))):=aa ((hg5.block _ (lt_of_block hnew) (fun e=>by
          obtain⟨es,c',hmm⟩:=aC HNA.out.map;rw[Option.some.inj e,hmm]at hnew;cases hnew)).trans hnew)
         have HB5:Hid (w5.heap[bo]? =some (.cells #[.string t.id,.int .i64 3,.int .i64 t.x,.int .i64 t.y,.slice (some ⟨gr,og,none⟩) t.refs.length cr,.slice At t.tags.length ct] 47 (0,0))):=aa ((hg5.block _ (lt_of_block (ai hba HBQ.out)) (fun e=>by
          obtain⟨es,c',hmm⟩:=aC HNA.out.map;have hbq:=ai hba HBQ.out;rw[Option.some.inj e,hmm]at hbq;cases hbq)).trans (ai hba HBQ.out))
         have HW5:Hid (Below w1.heap.size w1 w5):=aa (ak HNA.out.below hg5 (fun r hr=>by cases hr;exact HNA.out.lo));have HBACK:=aa hback;have HMB:=aa hmb5;have HSZ5:Hid (w5.heap.size=wx.heap.size+1):=aa (by rw[hs5];simp);clear hback hg5 hs5 hmb5 hnew hne hba HNA HSA HNQ HSQ HBQ HKQ HR3;obtain⟨xs,hxs⟩:∃xs,wx.heap.size=xs:=⟨_,rfl⟩;rw[hxs]at HN5 HSZ5
         go_wp2_with (at_builtin;go_must (refine wpList_append_lies _ rfl (.tmp 82) (.tmp 85) 39 rfl w1.heap.size 9 j0s (.string ⟨#[]⟩) 1 16 Tryz.underlying39 HJ0.out HY0.out HY1.out HY2.out rfl (by decide) (.slice Av G0.length cv) G0.length (G0.map .string) rfl ?c0 ⟨xs,0,none⟩ 1 1 [.string t.id] rfl rfl ?c1 ?c2 (by decide) ?c3 ?c4 ?c5 w5.heap.size ?c6 ?_))
         case c0=>exact HROW.out
         case c1=>intro j u hj;(by_cases e:j=0<;>simpa[Addr.add,e]using World.news_of_block (cs:=#[.string t.id]) (t:=9) (fr:=(0,0)) HN5.out j u hj)
         case c2=>first|rfl|(intro u hu;simp at hu;rw[hu];rfl)
         case c3=>have:=HGL.out;unfold maxLen;omega
         case c4=>have:=HGL.out;omega
         case c5=>exact HW5.out.size
         case c6=>rfl
         intro g9 cap w9 hown9 hgrow9 hat9 _;have hrow9:w9.ownsRow w1.heap.size 9 1 (.slice (some ⟨g9,0,none⟩) (G0.length+1) cap) (G0++[t.id]).length ((G0++[t.id]).map .string):=by
          rw[List.length_append,List.map_append];exact hown9
         have HS9:=aa (HS5.out.grow (x':=(.slice (some ⟨g9,0,none⟩) (G0.length+1) cap,G0++[t.id])) hgrow9 (.inr rfl) hrow9 (fun b hb=>by
          have hbg:g9=b:=Option.some.inj hb;subst hbg;rcases hat9 with h|h
          ·exact .inl h
          ·exact .inr (Nat.le_of_eq h.symm)))
         have hm9:w9.heap[w1.heap.size]? =w5.heap[w1.heap.size]? :=hgrow9.block _ (by obtain⟨_,_,h⟩:=HMB.out;exact lt_of_block h) (fun e=>aH HROW.out HMB.out e.symm);obtain⟨w10,hst10,hml10,hg10,hs10⟩:=HBACK.out w9 (.slice (some ⟨g9,0,none⟩) (G0.length+1) cap) hm9;change (Instr.entryStore 169 (.map (some w1.heap.size)) (.int .i64 (st:Int)) (.slice (some ⟨g9,0,none⟩) (G0.length+1) cap)).run _ _= .ok () _ at hst10;have hmb9:∃es c,w9.heap[w1.heap.size]? =some (.map es c):=by
          obtain⟨es,c',h⟩:=HMB.out;exact⟨es,c',hm9.trans h⟩
         have HW9:=ak HW5.out hgrow9 (fun r hr=>(aj HROW.out hr).1);have HN10:Hid (DP w1 w1.heap.size (pre++((ka,kz),.slice (some ⟨g9,0,none⟩) (G0.length+1) cap,G0++[t.id])::post) w10):=by
          refine aa ⟨?_,?_,ak HW9 hg10 (fun r hr=>by cases hr;exact Nat.le_refl _),Nat.le_refl _⟩
          ·rw[←(HPUT.out (.slice (some ⟨g9,0,none⟩) (G0.length+1) cap) t.id).2.1];exact hml10
          ·rw[List.map_append,List.map_cons];exact HS9.out.kept hg10 (fun x hx b hb e=>aH (HS9.out.row x hx) hmb9 (by rw[hb];exact e.symm))
         have hb9:=(hgrow9.block _ (lt_of_block HB5.out) (eA HROW.out HB5.out (by decide))).trans HB5.out;have HB10:Hid (w10.heap[bo]? =some (.cells #[.string t.id,.int .i64 3,.int .i64 t.x,.int .i64 t.y,.slice (some ⟨gr,og,none⟩) t.refs.length cr,.slice At t.tags.length ct] 47 (0,0))):=aa ((hg10.block _ (lt_of_block hb9) (fun e=>by
          obtain⟨es,c',hmm⟩:=hmb9;rw[Option.some.inj e,hmm]at hb9;cases hb9)).trans hb9)
         have HPL:=aa (HPUT.out (.slice (some ⟨g9,0,none⟩) (G0.length+1) cap) t.id).2.2;have HRX:=aa (HR9.out (.slice (some ⟨g9,0,none⟩) (G0.length+1) cap));clear hxs hown9 hgrow9 hat9 hrow9 hm9 hml10 hg10 hs10 hmb9 HW9 hb9 HS9 HBACK HMB HROW HS5 HB5 HN5 HPUT HR9 HW5;go_wp2_with fail;refine⟨⟨m+1,_,HLT.out,by go_num,by have:=HL2.out;have:=HPL.out;omega,HRX,HN10,HB10⟩,?_⟩;have:=HMS2.out;simp[intOf];omega
      ·have HSN9:Hid (br t=m):=aa (by rw[HSN.out];omega);have j0:¬(m:Int)<(t.refs.length:Nat):=O9;clear hb2 hlt hle;have HR9:Hid (bW rows2 (jD l (l.take (k+1)))):=aa (hr2.out.same (fun p=>by rw[HTK.out,←HSN9.out];exact(vM HBN.out p).symm));have HN9:=aa hn2.out;have HL9:Hid (rows2.length≤12*(k+1)):=aa (by have:=HOK.out.2.1;omega);clear hr2 hn2;go_wp2_with fail;refine⟨⟨k+1,rows2,HL.out,by go_num,HL9.out,HR9,HN9⟩,?_⟩;have:=HMS.out;simp[intOf];omega
   have e2:(t.kind ==2)=false:=beq_eq_false_iff_ne.2 h2;(have n2:(t.kind != 2)=true:=by rw[bne,e2];rfl);have e3:(t.kind ==3)=false:=beq_eq_false_iff_ne.2 h3;(have n3:(t.kind != 3)=true:=by rw[bne,e3];rfl);have HR9:Hid (bW rows (jD l (l.take (k+1)))):=aa (HRR.out.same (fun p=>by rw[HTK.out];exact oM (by unfold bU;rw[if_neg (fun h=>by rcases h.1 with h|h;exact h2 h;exact h3 h)]) p));clear h2 h3;go_wp2_with fail;refine⟨⟨k+1,rows,HL.out,by go_num,by have:=HRL.out;omega,HR9,HLN⟩,?_⟩;have:=HMS.out
   simp[intOf];omega
  ·(obtain rfl:k=l.length:=by omega);have k1:¬(l.length:Int)<(l.length:Nat):=O9;have HRF:Hid (bW rows (aB l)):=aa (hrr.out.same (fun p=>by rw[List.take_length];rfl));have hrl2:rows.length≤240:=O9;have hlen:=fun ty=>(hln.out.map).len Tryz.underlying169 ty;(have hkl:(keyed rows).length=rows.length:=by unfold keyed;rw[List.length_map]);rw[hkl]at hlen
   obtain⟨w2,hmk,hrow,hgr⟩:=run_makeSlice_owned (P:=Tryz.prog) wr w1.heap.size 84 91 i0l _ 3 Tryz.underlying84 HI0.out HZ0.out HZ1.out .i64 .i64 rows.length O9 (by rw[HZ2.out];omega) (by unfold maxLen;omega) hln.out.below.size;have hb2:Below wr.heap.size wr w2:=⟨hgr.os,hgr.tape,hgr.output,hgr.size,fun i hi=>hgr.block i hi (by simp)⟩;have hln2:=hln.out.lift hb2;obtain⟨w3,hr3,hrg3,hg3,hs3⟩:=hln2.map.range Tryz.underlying169;rw[hkl]at hrg3
   have hb3:Below w2.heap.size w2 w3:=⟨hg3.os,hg3.tape,hg3.output,hg3.size,fun i hi=>hg3.block i hi (by simp)⟩;have HSR3:=aa (hln2.sr.kept (aI hb3) (fun _ _ _ _=>by simp));have HBW3:=aa (aq hln2.below hb3);have HRG3:=aa hrg3;have HROW3:=aa (ao hrow hb3);have HRL2:=aa hrl2;(have hwl:w1.heap.size<w2.heap.size:=by obtain⟨_,_,h⟩:=aC hln2.map;exact lt_of_block h);have HWL:=aa hwl;clear hrr hln hrow hgr hb2 hln2 hrg3 hg3 hs3 hb3 hrl hkl hlt hwl;go_wp2_with fail;obtain⟨rb,hrb⟩:∃rb,w2.heap.size=rb:=⟨_,rfl⟩
   rw[hrb]at HRG3 HWL ⊢;clear hmk hr3 hlen hrb;go_loopw [11] (fun vo wq=>∃(C:List (Rw Pr))(left:Pr→Bool)(ja:Nat)(Ao:Option Addr)(co:Nat),vo= .slice Ao C.length co∧C.length+ja≤rows.length∧Hid (qD rows C left)∧Hid (bD (kS Tryz.prog 87 (Maps.Keyed.of_law fu) iV) wq w1.heap.size rb (keyed rows) left ja)∧Hid (wq.ownsRow w1.heap.size 91 3 (.slice Ao C.length co) C.length (C.flatMap kc))∧Hid (uO w1.heap.size (rows.map Prod.snd) wq)∧Hid (Below w1.heap.size w1 wq)) (fun _ wq=>wq.rangeLeft w1.heap.size rb)
   case atStart=>exact⟨[],_,_,_,_,rfl,by simp,vN rows,HRG3,HROW3,HSR3,HBW3⟩
   case round=>
    clear HRG3 HROW3 HSR3 HBW3;obtain⟨C,left,ja,Ao,co,rfl,hcl,hco,hrg,hro,hsr,hbw⟩:=hrel;rcases hrg.out.next with⟨hc0,hl0,hnx⟩|⟨p,v,w5,cnt',hok,hlx,hgx,hnx,hrg5,hlt5,hg5,hs5,hen⟩
    ·have HPM:Hid (C.Perm rows):=aa (hco.out.done HRF.out (fun x hx=>hl0 x.1 (hrg.out.okk _ (List.mem_map.2 ⟨x,hx,rfl⟩))));have hsl:∀x∈C,isSl x.2.1:=fun x hx=>by
      obtain⟨A2,c2,e⟩:=pZ (hsr.out.row x.2 (List.mem_map.2 ⟨x,HPM.out.mem_iff.1 hx,rfl⟩));exact⟨_,_,_,e⟩
     have HSRT:=aa (zq w1.heap.size C (.slice Ao C.length co) wr hro.out hsl (by have:=HRL2.out;omega));have HRO:=aa hro.out;have HSR:=aa hsr.out;have HBW:=aa hbw.out;clear hl0 hrg hco hcl hro hsr hbw hsl hc0;go_wp2_with fail;refine HSRT.out.mono ?_;rintro _ w6 ⟨rfl,L,hp,hs,ho,hg6⟩;have hL:L.map (fun x=>(x.1,x.2.2))=bQ l:=EK HRF.out (hp.trans HPM.out) hs;have hs6:=HSR.out.kept hg6 (fun x hx b hb=>nM (HSR.out.row x hx) HRO.out (by decide) b hb);have HLS:Hid (II w6 (.slice Ao C.length co) (bQ l)):=aa (by
      rw[←hL];exact zl ho (fun x hx=>hs6.row x.2 (List.mem_map.2 ⟨x,(hp.trans HPM.out).mem_iff.1 hx,rfl⟩)))
     have HB6:=aa (aq HB1.out (ak HBW.out hg6 (fun r hr=>(aj HRO.out hr).1)));clear hp hs ho hg6 hL hs6 HSRT;go_wp2_with fail;go_ret;exact⟨_,rfl,HLS.out,HB6.out⟩
    ·obtain⟨x,hxp,hxv,hxm,hcn⟩:=hco.out.step HRF.out hlx hgx;subst hxp;subst hxv;obtain⟨⟨pa,pb⟩,v0,ids⟩:=x;obtain⟨A2,c2,hv0⟩:=pZ (hsr.out.row (v0,ids) (List.mem_map.2 ⟨_,hxm,rfl⟩));simp only at hv0;subst hv0;change ∀ty,(Instr.next (.pointer (some ⟨rb,0,none⟩)) false ty).run Tryz.prog wr= .ok (.tuple #[.bool true,.agg #[.string pa,.string pb],.slice A2 ids.length c2]) w5 at hnx
     change (Instr.entry (.pointer (some ⟨rb,0,none⟩))).run Tryz.prog w5= .ok (.tuple #[.agg #[.string pa,.string pb],.slice A2 ids.length c2]) w5 at hen;have hit:=dh hrg.out;have hro5:=bG hro.out hg5 (fun b hb e=>bZ hro.out hit (by rw[hb];exact e.symm));have hsr5:=hsr.out.kept hg5 (fun x hx b hb e=>bZ (hsr.out.row x hx) hit (by rw[hb];exact e.symm));have hbw5:=ak hbw.out hg5 (fun r hr=>by cases hr;have:=HWL.out;omega)
     have hba:Below w5.heap.size w5 (w5.alloc (.cells #[.string pa,.string pb] 87)):=(Below.refl _ _).alloc (Nat.le_refl _) _;have hkb:=heap_alloc_new w5 (.cells #[.string pa,.string pb] 87);obtain⟨wk,hwk⟩:∃wk,w5.alloc (.cells #[.string pa,.string pb] 87)=wk:=⟨_,rfl⟩;rw[hwk]at hba hkb;obtain⟨f0,f1⟩:=(aW hkb).1;have hbb:Below wk.heap.size wk (wk.alloc (.cells #[.string pa,.string pb,.slice A2 ids.length c2] 91)):=(Below.refl _ _).alloc (Nat.le_refl _) _
     have hln:=heap_alloc_new wk (.cells #[.string pa,.string pb,.slice A2 ids.length c2] 91);have hbl:=aq hba hbb;have HRO:=aa (ao hro5 hbl);have HSR:=aa (hsr5.kept (aI hbl) (fun _ _ _ _=>by simp));have HBW:=aa (aq hbw5 hbl);have HRG:=aa (hrg5.kept (aI hbl) (by simp) (by simp));have HLNB:=aa hln;have HCN:=aa hcn;have HCL:Hid (C.length+1+cnt'≤rows.length):=aa O9
     have HM9:Hid (∀W,bD (kS Tryz.prog 87 (Maps.Keyed.of_law fu) iV) W w1.heap.size rb (keyed rows) (fun y=>left y&& !decide (y=(pa,pb))) cnt'→W.rangeLeft w1.heap.size rb<wr.rangeLeft w1.heap.size rb):=aa (fun W h=>by rw[h.left_eq,hrg.out.left_eq];exact hlt5);have HC240:Hid (C.length≤240):=aa (by have:=HRL2.out;omega);clear hco hrg hro hsr hbw hrg5 hlt5 hg5 hs5 hro5 hsr5 hbw5 hba hkb hbb hln hbl hcn hcl hgx hlx hxm hit hok
     go_wp2_with (at_builtin;go_must (refine wpList_append_lies _ rfl (.tmp 101) (.tmp 105) 84 rfl w1.heap.size 91 i0l (.agg #[.string ⟨#[]⟩,.string ⟨#[]⟩,.slice none 0 0]) 3 56 Tryz.underlying84 HI0.out HZ0.out HZ1.out HZ2.out rfl (by decide) (.slice Ao C.length co) C.length (C.flatMap kc) rfl ?c0 ⟨wk.heap.size,0,none⟩ 1 1 [.string pa,.string pb,.slice A2 ids.length c2] rfl rfl ?c1 ?c2 (by decide) ?c3 ?c4 ?c5 (wk.heap.size+1) ?c6 ?_))
     case c0=>exact HRO.out
     case c2=>first|rfl|exact⟨rfl,rfl,rfl⟩
     case c3=>have:=HC240.out;unfold maxLen;omega
     case c4=>have:=HC240.out;omega
     case c5=>simpa using HBW.out.size
     intro g9 cap w9 hown9 hgrow9 hat9 _;have hro9:w9.ownsRow w1.heap.size 91 3 (.slice (some ⟨g9,0,none⟩) (C++[((pa,pb),(.slice A2 ids.length c2:Value),ids)]).length cap) (C++[((pa,pb),(.slice A2 ids.length c2:Value),ids)]).length ((C++[((pa,pb),(.slice A2 ids.length c2:Value),ids)]).flatMap kc):=by
      rw[List.length_append,List.flatMap_append];simpa[kc]using hown9
     have HRO9:=aa hro9;have HSR9:=aa (HSR.out.kept hgrow9 (fun x hx b hb=>nM (HSR.out.row x hx) HRO.out (by decide) b hb));have HBW9:=aa (ak HBW.out hgrow9 (fun r hr=>(aj HRO.out hr).1));have HRG9:=aa (HRG.out.kept hgrow9 (fun e=>aH HRO.out (aC HRG.out.map) e.symm) (fun e=>bZ HRO.out (dh HRG.out) e.symm));have HLEN:Hid (Value.slice (some ⟨g9,0,none⟩) (C.length+1) cap= .slice (some ⟨g9,0,none⟩) (C++[((pa,pb),(.slice A2 ids.length c2:Value),ids)]).length cap):=aa (by simp)
     clear hown9 hgrow9 hat9 hro9 HRO HSR HBW HRG HLNB f0 f1 hwk;go_wp2_with fail;refine⟨⟨_,_,cnt',some ⟨g9,0,none⟩,cap,HLEN.out,by have:=HCL.out;simp;omega,HCN,HRG9,HRO9,HSR9,HBW9⟩,?_⟩;exact HM9.out _ HRG9.out
