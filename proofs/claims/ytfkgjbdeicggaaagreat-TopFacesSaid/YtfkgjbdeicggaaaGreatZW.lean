/-
  sweep.All, walked.
-/
import Derived.Test.YtfkgjbdeicggaaaGreatZV
set_option maxHeartbeats 16000000
set_option maxRecDepth 100000
namespace Go.Proofs.YtfkgjbdeicggaaaGreat
open Go.RowKit Go.Proofs.Pg Go.Proofs.Pto
theorem lW{w w':World}{B:Nat}{e:TypeId}{sz:Nat}{v:Value}{n:Nat}{xs:List Value}{row:Option Nat}(h:w.ownsRow B e sz v n xs)(hg:w.grownBy w' row)(hne:∀b,v.ownBlock=some b→row≠some b):w'.ownsRow B e sz v n xs:=by
 obtain⟨h1,h2⟩:=h;refine⟨h1,?_⟩;rcases h2 with h2|⟨g,cap,cur,hv,hgb,hh,rr⟩
 ·exact .inl h2
 ·exact .inr ⟨g,cap,cur,hv,hgb,(hg.block g (Array.getElem?_eq_some_iff.1 hh).1 (fun e=>hne g (by rw[hv];rfl) e.symm)).trans hh,rr⟩
theorem nM{w:World}{B B':Nat}{e e':TypeId}{sz sz':Nat}{v v':Value}{n n':Nat}{xs xs':List Value}(h:w.ownsRow B e sz v n xs)(h':w.ownsRow B' e' sz' v' n' xs')(he:e≠e'):∀b,v.ownBlock=some b→v'.ownBlock≠some b:=by
 intro b hb hb';rcases h.2 with⟨rfl,_⟩|⟨g,cap,cur,rfl,_,hh,_⟩
 ·cases hb
 ·rcases h'.2 with⟨rfl,_⟩|⟨g',cap',cur',rfl,_,hh',_⟩
  ·cases hb'
  ·cases hb;cases hb';rw[hh]at hh';cases hh';exact he rfl
theorem aj{w:World}{B:Nat}{e:TypeId}{sz:Nat}{v:Value}{n:Nat}{xs:List Value}(h:w.ownsRow B e sz v n xs){b:Nat}(hb:v.ownBlock=some b):B≤b∧b<w.heap.size:=by
 rcases h.2 with⟨rfl,_⟩|⟨g,cap,cur,rfl,hg,hh,_⟩
 ·cases hb
 ·cases hb;exact⟨hg,(Array.getElem?_eq_some_iff.1 hh).1⟩
theorem pZ{w:World}{B:Nat}{e:TypeId}{sz:Nat}{v:Value}{n:Nat}{xs:List Value}(h:w.ownsRow B e sz v n xs):∃A c,v= .slice A n c:=by
 rcases h.2 with⟨rfl,h0⟩|⟨g,cap,cur,rfl,_⟩
 ·exact⟨none,0,by rw[h0]⟩
 ·exact⟨_,_,rfl⟩
structure zf(w:World)(g n:Nat)(r:List It)(O:List Mt)(Ac:List It)(vo va:Value)(W:World):Prop where
 items:W.ownsRow g 135 9 (.slice (some ⟨g,0,none⟩) n n) n (r.flatMap bB)
 out:W.ownsRow (g+1) 73 3 vo O.length (O.flatMap fR)
 act:W.ownsRow (g+1) 135 9 va Ac.length (Ac.flatMap bB)
 below:Below w.heap.size w W
 eq:w.heap.size=g
 lt:g+1≤W.heap.size
theorem zf.grow{w:World}{g n:Nat}{r:List It}{O:List Mt}{Ac:List It}{vo va:Value}{W W':World}(h:zf w g n r O Ac vo va W)(hb:Below W.heap.size W W'):zf w g n r O Ac vo va W':=
 ⟨gS h.items hb,gS h.out hb,gS h.act hb,h.below.trans (hb.mono h.below.size),h.eq,Nat.le_trans h.lt hb.size⟩
theorem jh{w W W':World}{row:Option Nat}(h:Below w.heap.size w W)(hg:W.grownBy W' row)(hr:∀b,row=some b→w.heap.size≤b):Below w.heap.size w W':=
 ⟨hg.os.trans h.os,hg.tape.trans h.tape,hg.output.trans h.output,Nat.le_trans h.size hg.size,fun i hi=>(hg.block i (Nat.lt_of_lt_of_le hi h.size) (fun e=>by have:=hr i e.symm;omega)).trans (h.block i hi)⟩
theorem zf.setA{w:World}{g n:Nat}{r:List It}{O:List Mt}{Ac Ac':List It}{vo va va':Value}{W W':World}(h:zf w g n r O Ac vo va W)(ha:W'.ownsRow (g+1) 135 9 va' Ac'.length (Ac'.flatMap bB))(hg:W.grownBy W' va.ownBlock):zf w g n r O Ac' vo va' W':=by
 have he:=h.eq;refine⟨lW h.items hg (fun b hb e=>?_),lW h.out hg (nM h.out h.act (by decide)),ha,jh h.below hg (fun b hb=>by have:=(aj h.act hb).1;omega),he,Nat.le_trans h.lt hg.size⟩;cases hb;have:g+1≤g:=(aj h.act e).1;omega
theorem zf.setO{w:World}{g n:Nat}{r:List It}{O O':List Mt}{Ac:List It}{vo va vo':Value}{W W':World}(h:zf w g n r O Ac vo va W)(ha:W'.ownsRow (g+1) 73 3 vo' O'.length (O'.flatMap fR))(hg:W.grownBy W' vo.ownBlock):zf w g n r O' Ac vo' va W':=by
 have he:=h.eq;refine⟨lW h.items hg (fun b hb e=>?_),ha,lW h.act hg (nM h.act h.out (by decide)),jh h.below hg (fun b hb=>by have:=(aj h.out hb).1;omega),he,Nat.le_trans h.lt hg.size⟩;cases hb;have:g+1≤g:=(aj h.out e).1;omega
theorem CI:(Tryz.prog.info? 73).map (fun i=>(i.zero,i.size,i.bytes))=some (some (.agg #[.int .i64 0,.int .i64 0,.int .i64 0]),3,24):=K9
theorem zg(l:List It)(x:It):(l++[x]).flatMap bB=l.flatMap bB++bB x:=by simp
theorem zh(l:List Mt)(x:Mt):(l++[x]).flatMap fR=l.flatMap fR++fR x:=by simp
theorem wX(done:List It)(a:It)(r:List It):er done (a::r)=(eL a done).filterMap (eS a)++er (done++[a]) r:=rfl
theorem CJ(l:List Sg)(v:Value)(w:World)(hv:Bd w v l)(hl:l.length≤20000):Calls Tryz.prog 19 #[v] w fun e w'=>∃v',e= .returned (.tuple #[v',.int .i64 0])∧w'.ownsRow w.heap.size 73 3 v' (ep l).length ((ep l).flatMap fR)∧Below w.heap.size w w':=by
 obtain⟨i0,hi,hz0,hz1,hz2⟩:=aM CH;have HI:=aa hi;have HZ0:=aa hz0;have HZ1:=aa hz1;have HZ2:=aa hz2;obtain⟨j0,hj0,hy0,hy1,hy2⟩:=aM CI;have HJ0:=aa hj0;have HY0:=aa hy0;have HY1:=aa hy1;have HY2:=aa hy2;clear hj0 hy0 hy1 hy2;obtain⟨A,c,rfl,hA⟩:=id hv;have HSG:=aa (fun W (h:Below w.heap.size w W)=>hv.below h);have HA:=aa hA;obtain⟨n,hn⟩:∃n,l.length=n:=⟨_,rfl⟩;have HN:=aa hn;have hn2:n≤20000:=O9;have hn3:¬(20000:Int)<(n:Int):=O9;rw[hn]at HSG ⊢;clear hi hz0 hz1 hz2 hA hv hl hn
 obtain⟨w1,hmk,hrow,hgr⟩:=run_makeSlice_full (P:=Tryz.prog) w w.heap.size 130 135 i0 _ 9 Tryz.underlying130 HI.out HZ0.out HZ1.out .i64 .i64 n O9 (by rw[HZ2.out];omega) (by unfold maxLen;omega) (Nat.le_refl _);rw[ze,←uu HN.out]at hrow;have HROW:=aa hrow;have HGR:Hid (Below w.heap.size w w1):=aa ⟨hgr.os,hgr.tape,hgr.output,hgr.size,fun k hk=>hgr.block k hk (fun e=>by cases e)⟩;clear hrow hgr;obtain⟨g,hg⟩:∃g,w.heap.size=g:=⟨_,rfl⟩;have HG:=aa hg;rw[hg]at hmk HROW;clear hg
 go_enter Tryz.func19,Tryz.ntmps19;go_upto_block 0 with(fail);clear hmk;go_cut [] (fun wx=>Hid (wx.ownsRow g 135 9 (.slice (some ⟨g,0,none⟩) n n) n ((cP 0 l).flatMap bB)∧Below w.heap.size w wx))
 case first=>
  go_wp2_with fail;go_loopw [22] (fun i wr=>∃k:Nat,k≤n∧i= .int .i64 k∧Hid (wr.ownsRow g 135 9 (.slice (some ⟨g,0,none⟩) n n) n ((gY l k).flatMap bB)∧Below w.heap.size w wr)) (fun i _=>n-(intOf i).toNat)
  case atStart=>exact⟨0,Nat.zero_le _,rfl,aa ⟨HROW.out,HGR.out⟩⟩
  case round=>
   obtain⟨k,hk,rfl,hst⟩:=hrel;by_cases hlt:k<n
   ·obtain⟨s,hs⟩:∃s,l[k]? =some s:=⟨_,List.getElem?_eq_getElem (show k<l.length by rw[HN.out];exact hlt)⟩;obtain⟨_,_,he,hor⟩:=HSG.out wr hst.out.2;rw[Value.slice.injEq]at he;obtain⟨rfl,hnl,rfl⟩:=he;clear hnl;obtain⟨gs,os,rfl,hgs,hso⟩:=hor.resolve_left (by intro e;rw[e]at hs;simp at hs);obtain⟨d0,d1,d2,d3⟩:=hso k s hs;have hgl:g<wr.heap.size:=by
     rcases hst.out.1.2 with⟨hv,_⟩|⟨g',cap,cur,hv,_,hh,_⟩
     ·cases hv
     ·cases hv;exact(Array.getElem?_eq_some_iff.1 hh).1
    have hba:Below wr.heap.size wr (wr.alloc (.cells #[.int .i64 s.a.x,.int .i64 s.a.y,.int .i64 s.b.x,.int .i64 s.b.y] 68)):=(Below.refl _ _).alloc (Nat.le_refl _) _;have HLY:Hid (DN w g g n wr.heap.size s (gY l k) (wr.alloc (.cells #[.int .i64 s.a.x,.int .i64 s.a.y,.int .i64 s.b.x,.int .i64 s.b.y] 68))):=
     aa ⟨gS hst.out.1 hba,heap_alloc_new _ _,hst.out.2.trans (hba.mono hst.out.2.size),O9,by rw[HG.out];exact Nat.le_refl _⟩
    have HKL:=aa (show k<l.length by rw[HN.out];exact hlt);have HKS:=aa hs;have HLT:=aa hlt;have k0:(0:Int)≤(k:Int):=O9;have k1:(k:Int)<(n:Nat):=O9;have hk2:k≤20000:=O9;clear hs hor hso hgs hst hgl hba hlt;go_upto_region 7 with(fail);generalize wr.alloc (.cells #[.int .i64 s.a.x,.int .i64 s.a.y,.int .i64 s.b.x,.int .i64 s.b.y] 68)=wx at*;generalize wr.heap.size=bx at*;clear d0 d1 d2 d3;have HLD:=aa (HLY.out.step (show Below wx.heap.size wx wx.drew from(Below.refl _ _).drew))
    have HX:=aa (fun W=>qP s.a.x s.b.x W);have HY:=aa (fun W=>qP s.a.y s.b.y W);have HAT:=aa (Fs HKL.out);have HXL:Hid ((⟨k,s⟩:It).xl=min s.a.x s.b.x∧(⟨k,s⟩:It).xh=max s.a.x s.b.x∧(⟨k,s⟩:It).yl=min s.a.y s.b.y∧(⟨k,s⟩:It).yh=max s.a.y s.b.y):=aa ⟨rfl,rfl,rfl,rfl⟩;clear HLY;generalize min s.a.x s.b.x=m1 at*;generalize max s.a.x s.b.x=m2 at*;generalize min s.a.y s.b.y=m3 at*;generalize max s.a.y s.b.y=m4 at*
    have HPT:Hid (∀W,DN w g g n bx s (gY l k) W→DN w g g n bx s (gY l (k+1)) (((((((((W.setCell ⟨g,k*9,none⟩ (.int .i64 (k:Int))).setCell ⟨g,k*9+1,none⟩ (.int .i64 s.a.x)).setCell ⟨g,k*9+2,none⟩ (.int .i64 s.a.y)).setCell ⟨g,k*9+3,none⟩ (.int .i64 s.b.x)).setCell ⟨g,k*9+4,none⟩ (.int .i64 s.b.y)).setCell ⟨g,k*9+5,none⟩ (.int .i64 m1)).setCell ⟨g,k*9+6,none⟩ (.int .i64 m2)).setCell ⟨g,k*9+7,none⟩ (.int .i64 m3)).setCell ⟨g,k*9+8,none⟩ (.int .i64 m4))):=by
     refine aa fun W hW=>?_;have h1:=hW.put (i:=k) (by rw[CF (by have:=HKL.out;omega)];exact HKL.out) ⟨k,s⟩;rw[CG HKS.out]at h1;unfold wV at h1;rw[HXL.out.1,HXL.out.2.1,HXL.out.2.2.1,HXL.out.2.2.2]at h1;exact h1
    go_region_held3 (fun w'=>(∃M,DN w g g n bx s M w')∧(w'.cell? ⟨bx,0,none⟩=some (.int .i64 s.a.x)∧w'.cell? ⟨bx,1,none⟩=some (.int .i64 s.a.y)∧w'.cell? ⟨bx,2,none⟩=some (.int .i64 s.b.x)∧w'.cell? ⟨bx,3,none⟩=some (.int .i64 s.b.y)))
     (with_reducible (first|exact⟨⟨_,HLD.out⟩,HLD.out.cells⟩|exact⟨⟨_,hk8⟩,hk8.cells⟩|exact⟨⟨_,hk7⟩,hk7.cells⟩|exact⟨⟨_,HPT.out _ hk8⟩,(HPT.out _ hk8).cells⟩))
     (first
      |(go_at_call 59;(with_reducible refine(HX.out _).mono ?_);rintro _ w7 ⟨rfl,b7⟩;have hk7:=HLD.out.step b7.below)
      |(go_at_call 59;(with_reducible refine(HY.out _).mono ?_);rintro _ w8 ⟨rfl,b8⟩;have hk8:=hk7.step b8.below;obtain⟨r0,r1,r2,r3,r4,r5,r6,r7,r8⟩:=iT hk8.row HAT.out;have fz:=fun t=>ez hk8.row t))
    all_goals
     have HK9:=aa (HPT.out _ hk8);clear hk7 hk8 r0 r1 r2 r3 r4 r5 r6 r7 r8 fz;go_wp2_with fail;refine⟨⟨k+1,HLT.out,by go_num,aa ⟨HK9.out.row,HK9.out.below⟩⟩,?_⟩;have:=HLT.out;simp[intOf];omega
   ·(obtain rfl:k=n:=by omega);have HR2:Hid (wr.ownsRow g 135 9 (.slice (some ⟨g,0,none⟩) k k) k ((cP 0 l).flatMap bB)∧Below w.heap.size w wr):=by
     have:=hst.out;rw[←HN.out,CE,HN.out]at this;exact aa this
    have k1:¬(k:Int)<(k:Nat):=O9;clear hst hlt;go_wp2_with fail;go_meet;exact HR2
 case rest=>
  have HC:=aa hcut.out;clear hcut HROW HGR;have hil:(cP 0 l).length=n:=by rw[iU];exact HN.out
  have HSI:=aa (yZ g (cP 0 l) (.slice (some ⟨g,0,none⟩) n n) wc (by rw[hil];exact HC.out.1) (fun i hi=>by
   obtain⟨j,h1,h2⟩:=mB.1 hi;have:=(List.getElem?_eq_some_iff.1 h2).1;have:=HN.out;omega) O9)
  clear hil;go_wp2_with fail;refine HSI.out.mono ?_;rintro _ w2 ⟨rfl,r,hp,hs,ho,hgr⟩;have hrn:r.length=n:=by rw[hp.length_eq,iU];exact HN.out
  have HPM:=aa hp;have HSR:Hid (r.Pairwise (fun a b=>a.xl≤b.xl)):=aa (hs.imp (fun {a b} h=>by
   have h2:¬H6 b a<0:=O9;rw[uk]at h2;omega))
  have HRN:=aa hrn;have HSW:Hid (zf w g n r [] [] (.slice none 0 0) (.slice none 0 0) w2):=by
   rw[hrn]at ho;have hl:=(aj ho (b:=g) rfl).2;exact aa ⟨ho,World.ownsRow_nil _ _ _ _,World.ownsRow_nil _ _ _ _,jh HC.out.2 hgr (fun b hb=>by cases hb;rw[HG.out];exact Nat.le_refl _),HG.out,hl⟩
  clear hp hs ho hgr hrn HSI HC;have hmf:∀(fn:Fn)(first cap:Array Value)(w:World),(Instr.makeFunc fn first cap).run Tryz.prog w= .ok (.func fn first cap) w:=fun _ _ _ _=>rfl;go_wp2_with fail
  go_loopw [7,8,52] (fun vo va i wr=>∃(k:Nat)(O:List Mt)(Ac:List It)(Ao Aa:Option Addr)(co ca:Nat),k≤n∧i= .int .i64 k∧vo= .slice Ao O.length co∧va= .slice Aa Ac.length ca∧O.length≤k*n∧Ac.length≤k∧Hid (er [] r=O++er (r.take k) (r.drop k))∧Hid (∀b∈r.drop k,eL b Ac=eL b (r.take k))∧Hid (zf w g n r O Ac (.slice Ao O.length co) (.slice Aa Ac.length ca) wr)) (fun _ _ i _=>n-(intOf i).toNat)
  case atStart=>exact⟨0,[],[],none,none,0,0,Nat.zero_le _,rfl,rfl,rfl,Nat.zero_le _,Nat.zero_le _,aa rfl,aa (fun b _=>rfl),HSW⟩
  case round=>
   clear HSW;obtain⟨k,O,Ac,Ao,Aa,co,ca,hk,rfl,rfl,rfl,hol,hal,hsw,hac,hst⟩:=hrel;by_cases hlt:k<n
   ·obtain⟨a,ha⟩:∃a,r[k]? =some a:=⟨_,List.getElem?_eq_getElem (show k<r.length by rw[HRN.out];exact hlt)⟩;have hdr:r.drop k=a::r.drop (k+1):=by
     rw[List.drop_eq_getElem_cons (by rw[HRN.out];exact hlt)];rw[List.getElem?_eq_getElem (by rw[HRN.out];exact hlt)]at ha;cases ha;rfl
    (have htk:r.take (k+1)=r.take k++[a]:=by rw[List.take_add_one,ha];rfl);have hactA:eL a Ac=eL a (r.take k):=hac.out a (by rw[hdr];exact List.mem_cons_self ..);have HAC:Hid (∀b∈r.drop (k+1),eL b (eL a (r.take k)++[a])=eL b (r.take (k+1))):=by
     refine aa fun b hb=>?_;have hab:a.xl≤b.xl:=by
      have h1:(r.drop k).Pairwise (fun a b=>a.xl≤b.xl):=HSR.out.drop;rw[hdr,List.pairwise_cons]at h1;exact h1.1 b hb
     rw[htk];exact Ez (done:=r.take k) hab
    have HSWL:Hid (er [] r=O++((eL a (r.take k)).filterMap (eS a)++er (r.take (k+1)) (r.drop (k+1)))):=by
     rw[hsw.out,hdr,wX,htk];exact aa rfl
    have hst1:=hst.out;obtain⟨c0,c1,c2,c3,c4,c5,c6,c7,c8⟩:=iT hst1.items ha;have hba:Below wr.heap.size wr (wr.alloc (.cells (bB a).toArray 135)):=(Below.refl _ _).alloc (Nat.le_refl _) _;have hst2:=hst1.grow hba;have hbox:=heap_alloc_new wr (.cells (bB a).toArray 135);have hbn:(Value.slice Aa Ac.length ca).ownBlock≠some wr.heap.size:=fun e=>by
     have:=(aj hst1.act e).2;omega
    have HDE:=aa (za (g+1) wr.heap.size a Ac (.slice Aa Ac.length ca) _ hst2.act O9 hbox hbn);have HST2:=aa hst2;have HBOX:=aa hbox;have HBL:=aa hba;have HBN:=aa hbn;have hne0:∀b∈eL a (r.take k),b.ix≠a.ix:=fun b hb=>by
     have hnd:r.Pairwise (fun a b=>a.ix≠b.ix):=(HPM.out.pairwise_iff (fun h e=>h e.symm)).2 (jT l 0);rw[←List.take_append_drop k r,hdr,List.pairwise_append]at hnd;exact hnd.2.2 b (List.mem_filter.1 hb).1 a (List.mem_cons_self ..)
    rw[hactA]at HDE;have HLE:Hid ((eL a (r.take k)).length≤k):=aa (by
     unfold eL;exact Nat.le_trans (List.length_filter_le _ _) (List.length_take_le _ _))
    have HOL:=aa hol;have HLT:=aa hlt;have k0:(0:Int)≤(k:Int):=O9;have k1:(k:Int)<(n:Nat):=O9;have hk2:k≤20000:=O9;obtain⟨Ad,hAd⟩:∃Ad,eL a (r.take k)=Ad:=⟨_,rfl⟩;rw[hAd]at HDE HLE HAC HSWL hne0;have HNE:=aa hne0;clear hne0;clear hsw hac hst hst1 hst2 hba hbox hbn hactA hdr ha hlt hAd htk hol hal;unfold bB at HBOX HDE HST2 HBL;go_wp2_with fail;refine HDE.out.mono ?_;rintro _ w3 ⟨v3,rfl,ha3,hg3⟩;obtain⟨A3,c3',rfl⟩:=pZ ha3;have HST3:=aa (HST2.out.setA ha3 hg3)
    obtain⟨ba,hba⟩:∃ba,wr.heap.size=ba:=⟨_,rfl⟩;have HB3:Hid (w3.heap[ba]? =some (.cells (bB a).toArray 135 (0,0))):=by
     have h1:=HBOX.out;rw[hba]at h1;refine aa ((hg3.block ba (Array.getElem?_eq_some_iff.1 h1).1 (fun e=>?_)).trans h1);exact HBN.out (by rw[←e,hba])
    rw[hba];clear ha3 hg3 HDE HST2 HBOX HBL HBN hba c0 c1 c2 c3 c4 c5 c6 c7 c8;go_upto_block 4 with(fail);go_cut [7] (fun s7 wx=>∃(P:List Mt)(Ap:Option Addr)(cp:Nat),s7= .slice Ap P.length cp∧P.length≤O.length+Ad.length∧Hid (P=O++Ad.filterMap (eS a))∧Hid (zf w g n r P Ad (.slice Ap P.length cp) (.slice A3 Ad.length c3') wx)∧Hid (wx.heap[ba]? =some (.cells (bB a).toArray 135 (0,0))))
    case first=>
     have HADL:Hid (Ad.length≤20000):=aa (by have:=HLE.out;omega);have HOX:Hid (O.length≤400000000):=by
      have h1:=HOL.out;have h2:k*n≤20000*20000:=Nat.mul_le_mul hk2 hn2;exact aa O9
     go_wp2_with fail;go_loopw [7,61] (fun vo i wq=>∃(j:Nat)(P:List Mt)(Ap:Option Addr)(cp:Nat),j≤Ad.length∧i= .int .i64 j∧vo= .slice Ap P.length cp∧P.length≤O.length+j∧Hid (P=O++(Ad.take j).filterMap (eS a))∧Hid (zf w g n r P Ad (.slice Ap P.length cp) (.slice A3 Ad.length c3') wq)∧Hid (wq.heap[ba]? =some (.cells (bB a).toArray 135 (0,0)))) (fun _ i _=>Ad.length-(intOf i).toNat)
     case atStart=>exact⟨0,O,Ao,co,Nat.zero_le _,rfl,rfl,Nat.le_refl _,aa (by simp),HST3,HB3⟩
     case round=>
      clear HST3 HB3;obtain⟨j,P,Ap,cp,hj,rfl,rfl,hpl,hpe,hss,hbb⟩:=hrel;by_cases hjl:j<Ad.length
      ·obtain⟨b,hb⟩:∃b,Ad[j]? =some b:=⟨_,List.getElem?_eq_getElem hjl⟩;obtain⟨g3,rfl⟩:∃g3,A3=some ⟨g3,0,none⟩:=by
        rcases hss.out.act.2 with⟨_,h0⟩|⟨g',cap,cur,hv,_⟩
        ·omega
        ·cases hv;exact⟨g',rfl⟩
       obtain⟨d0,d1,d2,d3,d4,d5,d6,d7,d8⟩:=iT hss.out.act hb;(have HTJ:Hid (Ad.take (j+1)=Ad.take j++[b]):=by rw[List.take_add_one,hb];exact aa rfl);have hab:b.ix≠a.ix:=HNE.out b (List.mem_of_getElem? hb);have HAB:=aa hab;have hbl:Below wr.heap.size wr (wr.alloc (.cells (bB b).toArray 135)):=(Below.refl _ _).alloc (Nat.le_refl _) _;have HSB:=aa (hss.out.grow hbl)
       have HBA:Hid ((wr.alloc (.cells (bB b).toArray 135)).heap[ba]? =some (.cells (bB a).toArray 135 (0,0))):=aa ((hbl.block ba (Array.getElem?_eq_some_iff.1 hbb.out).1).trans hbb.out);have HBB:=aa (heap_alloc_new wr (.cells (bB b).toArray 135));obtain⟨bb,hbbq⟩:∃bb,wr.heap.size=bb:=⟨_,rfl⟩;have HPE:=aa hpe.out;have HPL:=aa hpl;have HLTJ:=aa hjl;have HPB:Hid (P.length≤400020000):=aa (by have:=HOX.out;have:=HADL.out;omega);have j0':(0:Int)≤(j:Int):=O9;have j1:(j:Int)<(Ad.length:Nat):=O9
       (have hj2:j≤20000:=by have:=HADL.out;omega);have HBM:=aa (fun W=>yO a.yl a.yh b.yl b.yh W);unfold bB at HSB HBA HBB;rw[hbbq]at HBB;obtain⟨a0,a1,a2,a3,a4,a5,a6,a7,a8⟩:=pJ HBA.out;obtain⟨b0,b1,b2,b3,b4,b5,b6,b7,b8⟩:=pJ HBB.out;have HCON:Hid (eS a b=none→P=O++(Ad.take (j+1)).filterMap (eS a)):=aa (fun hn=>by
        rw[HTJ.out,List.filterMap_append,←List.append_assoc,←HPE.out];simp[hn])
       clear hpl hpe hss hbb hjl hj hb hbl hab;go_wp2_with fail;clear hbbq d0 d1 d2 d3 d4 d5 d6 d7 d8;generalize wr.alloc _=w5 at*;refine(HBM.out _).mono ?_;rintro _ w6 ⟨rfl,q6⟩;have HS6:=aa (HSB.out.grow q6.below);have HB6:Hid (w6.heap[ba]? =_):=aa ((q6.below.block ba (Array.getElem?_eq_some_iff.1 HBA.out).1).trans HBA.out);have HX6:Hid (w6.heap[bb]? =_):=aa ((q6.below.block bb (Array.getElem?_eq_some_iff.1 HBB.out).1).trans HBB.out)
       clear q6 HSB HBA HBB HBM a0 a1 a2 a3 a4 a5 a6 a7 a8 b0 b1 b2 b3 b4 b5 b6 b7 b8;cases hy:sg a b with
       |false=>
        have HPN:Hid (P=O++(Ad.take (j+1)).filterMap (eS a)):=aa (HCON.out (by unfold eS;rw[if_neg (by rw[hy];simp)]));unfold sg at hy;rw[hy];clear hy;go_wp2_with fail;refine⟨⟨j+1,P,Ap,cp,HLTJ.out,by go_num,rfl,by have:=HPL.out;omega,HPN,HS6,HB6⟩,?_⟩;have:=HLTJ.out;simp[intOf];omega
       |true=>
        have HY:=aa hy;unfold sg at hy;rw[hy];obtain⟨a0,a1,a2,a3,a4,a5,a6,a7,a8⟩:=pJ HB6.out;obtain⟨b0,b1,b2,b3,b4,b5,b6,b7,b8⟩:=pJ HX6.out;obtain⟨kd,hkd⟩:∃kd,meets a.s b.s=kd:=⟨_,rfl⟩;have HMT:Hid (∀W,Calls Tryz.prog 25 #[.agg #[.int .i64 a.s.a.x,.int .i64 a.s.a.y,.int .i64 a.s.b.x,.int .i64 a.s.b.y],.agg #[.int .i64 b.s.a.x,.int .i64 b.s.a.y,.int .i64 b.s.b.x,.int .i64 b.s.b.y]] W fun e w'=>e= .returned (.int .i64 kd)∧Below W.heap.size W w'):=by
         refine aa fun W=>?_;rw[←hkd];exact sO _ _ _ _ _ _ _ _ W
        have HKD:=aa hkd;clear hkd hy;go_wp2_with fail;refine(HMT.out _).mono ?_;rintro _ w7 ⟨rfl,q7⟩;have HS7:=aa (HS6.out.grow q7);have HB7:Hid (w7.heap[ba]? =_):=aa ((q7.block ba (Array.getElem?_eq_some_iff.1 HB6.out).1).trans HB6.out);have HX7:Hid (w7.heap[bb]? =_):=aa ((q7.block bb (Array.getElem?_eq_some_iff.1 HX6.out).1).trans HX6.out);clear q7 HS6 HB6 HX6 HMT a0 a1 a2 a3 a4 a5 a6 a7 a8 b0 b1 b2 b3 b4 b5 b6 b7 b8;by_cases hk0:kd=0
        ·have HPN:Hid (P=O++(Ad.take (j+1)).filterMap (eS a)):=aa (HCON.out (by unfold eS;rw[if_neg (fun e=>e.2 (by rw[HKD.out];exact hk0))]));subst hk0;go_wp2_with fail;refine⟨⟨j+1,P,Ap,cp,HLTJ.out,by go_num,rfl,by have:=HPL.out;omega,HPN,HS7,HB7⟩,?_⟩;have:=HLTJ.out;simp[intOf];omega
        have e1:(kd ==0)=false:=beq_eq_false_iff_ne.2 hk0;(have e2:(kd != 0)=true:=by rw[bne,e1];rfl);have HK0:=aa hk0;obtain⟨a0,_,_,_,_,_,_,_,_⟩:=pJ HB7.out;obtain⟨b0,_,_,_,_,_,_,_,_⟩:=pJ HX7.out;obtain⟨m,hm⟩:∃m,min a.ix b.ix=m:=⟨_,rfl⟩;obtain⟨M,hM⟩:∃M,max a.ix b.ix=M:=⟨_,rfl⟩;have hm1:min (a.ix:Int) (b.ix:Int)=(m:Int):=O9;have hm2:max (a.ix:Int) (b.ix:Int)=(M:Int):=O9;have HQ1:=aa hm;have HQ2:=aa hM;clear hm hM
        go_wp2_with (at_builtin;go_must (refine wpList_append_lies _ rfl (.tmp 78) (.tmp 91) 57 rfl (g+1) 73 j0 (.agg #[.int .i64 0,.int .i64 0,.int .i64 0]) 3 24 Tryz.underlying57 HJ0.out HY0.out HY1.out HY2.out rfl (by decide) (.slice Ap P.length cp) P.length (P.flatMap fR) rfl ?c0 ⟨w7.heap.size,0,none⟩ 1 1 (fR ⟨m,M,kd⟩) rfl rfl ?c1 ?c2 (by decide) ?c3 ?c4 ?c5 (w7.heap.size+1) ?c6 ?_))
        case c0=>exact(HS7.out.grow ((Below.refl _ _).alloc (Nat.le_refl _) _)).out
        case c1=>intro j u hj;exact World.news_of_block (cs:=(fR ⟨m,M,kd⟩).toArray) (t:=73) (fr:=(0,0)) (heap_alloc_new w7 _) j u hj
        case c2=>intro u hu;simp[fR]at hu;rcases hu with rfl|rfl|rfl<;>rfl
        case c3=>unfold maxLen;have:=HPB.out;omega
        case c4=>have:=HPB.out;omega
        case c5=>have:=HS7.out.lt;simp;omega
        case c6=>simp
        intro g9 cap w9 hown9 hgrow9 hat9 _;have HS9:=aa ((HS7.out.grow ((Below.refl w7.heap.size w7).alloc (Nat.le_refl _) (.cells (fR ⟨m,M,kd⟩).toArray 73))).setO (O':=P++[⟨m,M,kd⟩]) (vo':=.slice (some ⟨g9,0,none⟩) (P.length+1) cap) (by rw[zh,List.length_append];exact hown9) hgrow9);have HB9:Hid (w9.heap[ba]? =some (.cells (bB a).toArray 135 (0,0))):=by
         have h1:=(((Below.refl w7.heap.size w7).alloc (Nat.le_refl _) (.cells (fR ⟨m,M,kd⟩).toArray 73)).block ba (Array.getElem?_eq_some_iff.1 HB7.out).1).trans HB7.out;refine aa ((hgrow9.block ba (Array.getElem?_eq_some_iff.1 h1).1 (fun e=>?_)).trans h1);rcases HS7.out.out.2 with⟨hv,_⟩|⟨g',cap',cur',hv,_,hh,_⟩
         ·rw[hv]at e;cases e
         ·rw[hv]at e;cases e;have h2:=HB7.out;rw[hh]at h2;cases h2
        have HLE9:=aa (show Value.slice (some ⟨g9,0,none⟩) (P.length+1) cap= .slice (some ⟨g9,0,none⟩) (P++[(⟨m,M,kd⟩:Mt)]).length cap by simp);(have HS10:Hid (zf w g n r (P++[⟨m,M,kd⟩]) Ad (.slice (some ⟨g9,0,none⟩) (P++[(⟨m,M,kd⟩:Mt)]).length cap) (.slice (some ⟨g3,0,none⟩) Ad.length c3') w9):=by rw[←HLE9.out];exact HS9);have HPQ:Hid (P++[⟨m,M,kd⟩]=O++(Ad.take (j+1)).filterMap (eS a)):=by
         have hpm:eS a b=some ⟨m,M,kd⟩:=by
          rw[vB (by rw[HKD.out];exact HK0.out),HKD.out,HQ1.out,HQ2.out]
         have h0:P++[⟨m,M,kd⟩]=O++(Ad.take (j+1)).filterMap (eS a):=by
          rw[HTJ.out,List.filterMap_append,←List.append_assoc,←HPE.out];simp[hpm]
         exact aa h0
        (have HPL2:Hid ((P++[(⟨m,M,kd⟩:Mt)]).length≤O.length+(j+1)):=by rw[List.length_append];have:=HPL.out;exact aa (by show _+1≤_;omega));clear hown9 hgrow9 hat9;go_wp2_with fail;refine⟨⟨j+1,P++[⟨m,M,kd⟩],some ⟨g9,0,none⟩,cap,HLTJ.out,by go_num,HLE9.out,HPL2.out,HPQ,HS10,HB9⟩,?_⟩;have:=HLTJ.out;simp[intOf];omega
      ·(obtain rfl:j=Ad.length:=by omega);have HPN:Hid (P=O++Ad.filterMap (eS a)):=by
        have:=hpe.out;rw[List.take_length]at this;exact aa this
       have HSS:=aa hss.out;have HBB:=aa hbb.out;have HPL:=aa hpl;have j1:¬(Ad.length:Int)<(Ad.length:Nat):=O9;clear hpe hss hbb hpl hjl;go_wp2_with fail;go_meet;exact⟨P,Ap,cp,rfl,HPL.out,HPN,HSS,HBB⟩
    case rest=>
     obtain⟨P,Ap,cp,rfl,hpl,hpe,hss,hbb⟩:=hcut;have HPE:=aa hpe.out;have HPL:=aa hpl;have HSS:=aa hss.out;have hbb:=hbb.out;obtain⟨e0,e1,e2,e3,e4,e5,e6,e7,e8⟩:=pJ hbb;clear hpe hpl hss hbb HST3 HB3;(have hadl:Ad.length≤20000:=by have:=HLE.out;omega);have HADL:=aa hadl;clear hadl
     go_wp2_with (at_builtin;go_must (refine wpList_append_lies _ rfl (.tmp 94) (.tmp 96) 130 rfl (g+1) 135 i0 (.agg #[.int .i64 0,.int .i64 0,.int .i64 0,.int .i64 0,.int .i64 0,.int .i64 0,.int .i64 0,.int .i64 0,.int .i64 0]) 9 72 Tryz.underlying130 HI.out HZ0.out HZ1.out HZ2.out rfl (by decide) (.slice A3 Ad.length c3') Ad.length (Ad.flatMap bB) rfl ?c0 ⟨wc.heap.size,0,none⟩ 1 1 (bB a) rfl rfl ?c1 ?c2 (by decide) ?c3 ?c4 ?c5 (wc.heap.size+1) ?c6 ?_))
     case c0=>exact(HSS.out.grow ((Below.refl _ _).alloc (Nat.le_refl _) _)).act
     case c1=>intro j u hj;exact World.news_of_block (cs:=(bB a).toArray) (t:=135) (fr:=(0,0)) (heap_alloc_new wc _) j u hj
     case c2=>intro u hu;simp[bB]at hu;rcases hu with rfl|rfl|rfl|rfl|rfl|rfl|rfl|rfl|rfl<;>rfl
     case c3=>unfold maxLen;have:=HADL.out;omega
     case c4=>have:=HADL.out;omega
     case c5=>have:=HSS.out.lt;simp;omega
     case c6=>simp
     intro g9 cap w9 hown9 hgrow9 hat9 _;have HS9:=aa ((HSS.out.grow ((Below.refl wc.heap.size wc).alloc (Nat.le_refl _) (.cells (bB a).toArray 135))).setA (Ac':=Ad++[a]) (va':=.slice (some ⟨g9,0,none⟩) (Ad.length+1) cap) (by rw[zg,List.length_append];exact hown9) hgrow9);have HLE9:=aa (show Value.slice (some ⟨g9,0,none⟩) (Ad.length+1) cap= .slice (some ⟨g9,0,none⟩) (Ad++[a]).length cap by simp)
     (have HS10:Hid (zf w g n r P (Ad++[a]) (.slice Ap P.length cp) (.slice (some ⟨g9,0,none⟩) (Ad++[a]).length cap) w9):=by rw[←HLE9.out];exact HS9);(have HSW2:Hid (er [] r=P++er (r.take (k+1)) (r.drop (k+1))):=by rw[HSWL.out,HPE.out,List.append_assoc];exact aa rfl);have HOB:Hid (P.length≤(k+1)*n):=by
      have h1:=HPL.out;have h2:=HOL.out;have h3:=HLE.out;have h4:=HLT.out;have h5:(k+1)*n=k*n+n:=Nat.succ_mul k n;exact aa O9
     (have HAB:Hid ((Ad++[a]).length≤k+1):=by rw[List.length_append];have:=HLE.out;exact aa (by show _+1≤_;omega));clear hown9 hgrow9 hat9 e0 e1 e2 e3 e4 e5 e6 e7 e8;go_wp2_with fail;refine⟨⟨k+1,P,Ad++[a],Ap,some ⟨g9,0,none⟩,cp,cap,HLT.out,by go_num,rfl,HLE9.out,HOB.out,HAB.out,HSW2,HAC,HS10⟩,?_⟩;have:=HLT.out;simp[intOf];omega
   ·(obtain rfl:k=n:=by omega);have hO:er [] r=O:=by
     have:=hsw.out;rw[←HRN.out,List.drop_length]at this;simpa[er]using this
    have HSM:=aa (y7 (g+1) O (.slice Ao O.length co) wr hst.out.out (fun m hm=>by
     rw[←hO,oG HPM.out HSR.out,eR]at hm;obtain⟨s,t,h1,h2,_⟩:=hm;have q1:=(List.getElem?_eq_some_iff.1 h1).1;have q2:=(List.getElem?_eq_some_iff.1 h2).1;have:=HN.out;omega) (by have:k*k≤20000*20000:=Nat.mul_le_mul hn2 hn2;omega))
    have HO:=aa hO;have HST:=aa hst.out;have k1:¬(k:Int)<(k:Nat):=O9;clear hsw hac hst hO hlt hol hal;go_wp2_with fail;refine HSM.out.mono ?_;rintro _ w5 ⟨rfl,o2,hp2,hs2,ho2,hg2⟩;have he:o2=ep l:=BV HPM.out HSR.out (by rw[HO.out];exact hp2) (hs2.imp (fun {x y} h=>by
     have h2:¬H7 y x<0:=O9;rw[um]at h2;exact h2))
    have hlen:O.length=o2.length:=hp2.length_eq.symm;have HF:Hid (w5.ownsRow w.heap.size 73 3 (.slice Ao O.length co) (ep l).length ((ep l).flatMap fR)∧Below w.heap.size w w5):=by
     refine aa ⟨?_,jh HST.out.below hg2 (fun b hb=>by have:=(aj HST.out.out hb).1;have:=HST.out.eq;omega)⟩;rw[←he];exact⟨ho2.1,ho2.2.imp id (by
      rintro⟨g',cap,cur,h1,h2,h3⟩;exact⟨g',cap,cur,h1,by have:=HST.out.eq;omega,h3⟩)⟩
    clear hp2 hs2 ho2 hg2 he hlen HSM;go_wp2_with fail;refine bodyPost_ret (v:=.tuple #[.slice Ao O.length co,.int .i64 0]) ?_ rfl ⟨_,rfl,HF.out⟩;simp[results,Tryz.results19,go_sem]
