/-
  The parser's values, and the search for a kind, walked.
-/
import Derived.Test.YtoodmhlefaepaaaGreatRulA
import Derived.Deep.AppendLies
import Derived.OwnWalk
import Derived.Laws.AppendOwnNone
namespace Go.Proofs.YtoodmhlefaepaaaGreat
open Go.RowKit Go.Proofs.PlLex Go.Proofs.PlRule

theorem info_rstring : (Tryz.prog.info? 9).map (fun i => (i.zero, i.size, i.bytes)) = some (some (.string ⟨#[]⟩), 1, 16) := by kernel_rfl
theorem info_split {P : Program} {t : TypeId} {z : Option Value} {n m : Nat} (h : (P.info? t).map (fun i => (i.zero, i.size, i.bytes)) = some (z, n, m)) : ∃ i, P.info? t = some i ∧ i.zero = z ∧ i.size = n ∧ i.bytes = m := by
  obtain ⟨i, hi, he⟩ := Option.map_eq_some_iff.1 h
  simp only [Prod.mk.injEq] at he
  exact ⟨i, hi, he.1, he.2.1, he.2.2⟩
theorem rnew_cells (w : World) (l : List Value) (t : TypeId) : ∀ (j : Nat) (u : Value), l[j]? = some u → (w.alloc (.cells l.toArray t)).cell? (Addr.add ⟨w.heap.size, 0, none⟩ j) = some u := by
  intro j u hj
  have hb := heap_alloc_new w (.cells l.toArray t)
  have e : (⟨w.heap.size, 0, none⟩ : Addr).add j = ⟨w.heap.size, j, none⟩ := by simp only [Addr.add, Nat.zero_add]; split <;> simp_all
  rw [e, cell_of_row _ _ j _ _ _ hb]
  simpa using hj
theorem below_grown {w w' : World} (hb : Below w.heap.size w w') (row : Option Nat) : w.grownBy w' row := ⟨hb.os, hb.tape, hb.output, hb.size, fun i hi _ => hb.block i hi⟩
theorem grown_more {a b c : World} {row row' : Option Nat} (h : a.grownBy b row) (k : b.grownBy c row') (hr : ∀ x, row' = some x → a.heap.size ≤ x ∨ row = some x) : a.grownBy c row :=
  ⟨k.os.trans h.os, k.tape.trans h.tape, k.output.trans h.output, Nat.le_trans h.size k.size, fun i hi hn => (k.block i (Nat.lt_of_lt_of_le hi h.size) (fun e => by
    rcases hr i e.symm with h1 | h1
    · omega
    · exact hn h1.symm)).trans (h.block i hi hn)⟩
theorem cell_grown {w w' : World} {row : Option Nat} (hk : w.grownBy w' row) {g : Nat} (hg : g < w.heap.size) (hr : row ≠ some g) (j : Nat) : w'.cell? ⟨g, j, none⟩ = w.cell? ⟨g, j, none⟩ := by
  have := hk.block g hg (fun e => hr e.symm)
  simp [World.cell?, this]
theorem PrsI.kept {b n : Nat} {r : List Tok} {w w' : World} {row : Option Nat} (h : PrsI b n r w) (hk : w.grownBy w' row) (hr : ∀ x, row = some x → b < x) : PrsI b n r w' := by
  obtain ⟨A, c, hbk, hc, hA⟩ := h.cell
  have hlt := lt_of_blk hbk
  refine ⟨⟨A, c, (hk.block b hlt (fun e => by have := hr b e.symm; omega)).trans hbk, hc, ?_⟩, h.few, h.size⟩
  rcases hA with hA | ⟨g, o, hA, hg, ht⟩
  · exact .inl hA
  · refine .inr ⟨g, o, hA, hg, fun i t hi => ?_⟩
    have key := fun j => cell_grown hk (g := g) (by omega) (fun e => by have := hr g e; omega) j
    obtain ⟨h1, h2, h3, h4⟩ := ht i t hi
    exact ⟨(key _).trans h1, (key _).trans h2, (key _).trans h3, h4⟩
theorem PrsI.lt {b n : Nat} {r : List Tok} {w : World} (h : PrsI b n r w) : b < w.heap.size := by
  obtain ⟨A, c, hbk, _⟩ := h.cell
  exact lt_of_blk hbk
theorem own_grown {w w' : World} {B : Nat} {e : TypeId} {sz : Nat} {v : Value} {n : Nat} {xs : List Value} {row : Option Nat} (h : w.ownsRow B e sz v n xs) (hb : w.grownBy w' row) (hr : ∀ x, row = some x → x < B) : w'.ownsRow B e sz v n xs := by
  obtain ⟨h1, h2⟩ := h
  refine ⟨h1, ?_⟩
  rcases h2 with h2 | ⟨g, cap, cur, hv, hg, hh, rr⟩
  · exact .inl h2
  · exact .inr ⟨g, cap, cur, hv, hg, (hb.block g (lt_of_blk hh) (fun e => by have := hr g e.symm; omega)).trans hh, rr⟩
theorem own_blk {w : World} {B : Nat} {e : TypeId} {sz : Nat} {v : Value} {n : Nat} {xs : List Value} (h : w.ownsRow B e sz v n xs) {b : Nat} (hb : v.ownBlock = some b) : B ≤ b := by
  rcases h.2 with ⟨rfl, _⟩ | ⟨g, cap, cur, rfl, hg, hh, r⟩
  · cases hb
  · cases hb
    exact hg
theorem own_shape {w : World} {B : Nat} {e : TypeId} {sz : Nat} {v : Value} {n : Nat} {xs : List Value} (h : w.ownsRow B e sz v n xs) : ∃ A c, v = .slice A n c := by
  rcases h.2 with ⟨rfl, rfl⟩ | ⟨g, cap, cur, rfl, _⟩
  · exact ⟨none, 0, rfl⟩
  · exact ⟨_, _, rfl⟩
def wordR (s : L) (r : List Tok) : Bool × List Tok :=
  match acceptT 1 s r with
  | none => (false, r)
  | some r' => (true, r')
theorem word_one (b n : Nat) (r : List Tok) (s : L) (w : World) (h : PrsI b n r w) :
    Calls Tryz.prog 41 #[.pointer (some ⟨b, 0, none⟩), .string (ba s)] w fun e w' =>
      ∃ q r', wordR s r = (q, r') ∧ e = .returned (.bool q) ∧ PrsI b n r' w' ∧ w.grownBy w' (some b) := by
  refine (pword_any b n r s w h).mono ?_
  rintro e w' (⟨h1, h2, rfl⟩ | ⟨r', h1, h2, h3, h4⟩)
  · exact ⟨false, r, by unfold wordR; rw [h1], h2, h, grown_refl _ _⟩
  · exact ⟨true, r', by unfold wordR; rw [h1], h2, h3, h4⟩
theorem accept_one (b n k : Nat) (r : List Tok) (s : L) (w : World) (h : PrsI b n r w) :
    Calls Tryz.prog 72 #[.pointer (some ⟨b, 0, none⟩), .int .i64 (k : Int), .string (ba s)] w fun e w' =>
      (acceptT k s r = none ∧ e = .returned (.bool false) ∧ PrsI b n r w' ∧ w.grownBy w' (some b)) ∨ ∃ r', acceptT k s r = some r' ∧ e = .returned (.bool true) ∧ PrsI b n r' w' ∧ w.grownBy w' (some b) := by
  refine (accept_any b n r k s w h).mono ?_
  rintro e w' (⟨h1, h2, rfl⟩ | h1)
  · exact .inl ⟨h1, h2, h, grown_refl _ _⟩
  · exact .inr h1
set_option maxRecDepth 100000 in
set_option maxHeartbeats 4000000 in
theorem idx_any (ws : List L) (b n g c : Nat) (r : List Tok) (w : World) (h : PrsI b n r w) (hl : ws.length ≤ 100) (hs : ∀ (i : Nat) s, ws[i]? = some s → w.cell? ⟨g, i, none⟩ = some (.string (ba s))) :
    Calls Tryz.prog 43 #[.slice (some ⟨g, 0, none⟩) ws.length c, .func (Fn.func 41) #[.pointer (some ⟨b, 0, none⟩)] #[]] w fun e w' =>
      (idxT ws 0 r = none ∧ e = .returned (.int .i64 (-1)) ∧ w' = w) ∨ ∃ i r', idxT ws 0 r = some (i, r') ∧ 0 ≤ i ∧ e = .returned (.int .i64 i) ∧ PrsI b n r' w' ∧ w.grownBy w' (some b) := by
  have HS := hide hs
  have HW := hide (fun s => pword_any b n r s w h)
  clear h hs
  go_enter Tryz.func43, Tryz.ntmps43
  go_wp2_with fail
  go_loop [8] (fun i => ∃ k : Nat, k ≤ ws.length ∧ i = .int .i64 k ∧ Hid (idxT ws 0 r = idxT (ws.drop k) k r)) (fun i => ws.length - (intOf i).toNat)
  case atStart => exact ⟨0, Nat.zero_le _, rfl, hide rfl⟩
  case round =>
    obtain ⟨k, hk, rfl, hx⟩ := hrel
    by_cases hlt : k < ws.length
    · have hks := List.getElem?_eq_getElem hlt
      have hdr := List.drop_eq_getElem_cons hlt
      generalize ws[k] = s at *
      have c0 := HS.out k s hks
      have HX := hide hx.out
      rw [hdr] at HX
      have k0 : (0 : Int) ≤ k := by omega
      have k1 : (k : Int) < ws.length := by omega
      have HKL := hide hlt
      have HMS := hide (show ws.length - (k + 1) < ws.length - k from by omega)
      clear hlt hks hdr hx
      go_wp2_with fail
      refine (HW.out s).mono ?_
      rintro _ w2 (⟨h1, rfl, rfl⟩ | ⟨r', h1, rfl, h2, h3⟩)
      · have HX2 : Hid (idxT ws 0 r = idxT (ws.drop (k + 1)) ((k + 1 : Nat) : Int) r) := by
          rw [HX.out]
          show Hid (idxT (s :: ws.drop (k + 1)) k r = _)
          unfold idxT
          rw [h1]
          exact hide (by cases ws.drop (k + 1) <;> rfl)
        clear h1 c0
        go_wp2_with fail
        refine ⟨⟨k + 1, HKL.out, by go_num, HX2⟩, ?_⟩
        have := HMS.out
        simp [intOf]; omega
      · have HX2 : Hid (idxT ws 0 r = some ((k : Int), r')) := by
          rw [HX.out]
          unfold idxT
          rw [h1]
          exact hide rfl
        have H2 := hide h2
        have H3 := hide h3
        clear h1 h2 h3 c0
        go_wp2_with fail
        go_ret
        exact .inr ⟨_, r', HX2.out, by omega, rfl, H2.out, H3.out⟩
    · obtain rfl : k = ws.length := by omega
      have HX2 : Hid (idxT ws 0 r = none) := by
        rw [hx.out, List.drop_length]
        exact hide rfl
      have k1 : ¬ (ws.length : Int) < ws.length := by omega
      clear hx hlt
      go_wp2_with fail
      go_ret
      exact .inl ⟨HX2.out, rfl, rfl⟩
theorem takeT_sub {k : Nat} {r r' : List Tok} {s : L} (h : takeT k r = .ok (s, r')) : ∃ t, r = t :: r' ∧ t.kind = k ∧ t.text = s ∧ (k = 3 → valueL s = true) := by
  cases r with
  | nil => cases h
  | cons t r =>
    rw [takeT_cons] at h
    split at h
    · rename_i hk
      split at h
      · cases h
      · rename_i hv
        cases h
        refine ⟨t, rfl, hk, rfl, fun h3 => ?_⟩
        cases e : valueL t.text with
        | true => rfl
        | false => exact absurd ⟨h3, e⟩ hv
    · cases h
theorem acceptT_sub {k : Nat} {s : L} {r r' : List Tok} (h : acceptT k s r = some r') : ∃ t, r = t :: r' ∧ t.kind = k ∧ t.text = s := by
  cases r with
  | nil => cases h
  | cons t r =>
    rw [acceptT_cons] at h
    split at h
    · rename_i hk
      cases h
      exact ⟨t, rfl, hk.1, hk.2⟩
    · cases h
def tokLen (r : List Tok) : Prop := ∀ t ∈ r, t.text.length ≤ 1000000
theorem tokLen.tl {t : Tok} {r : List Tok} (h : tokLen (t :: r)) : tokLen r := fun x hx => h x (List.mem_cons_of_mem _ hx)
theorem acceptT_len {k : Nat} {s : L} {r r' : List Tok} (h : acceptT k s r = some r') (hl : tokLen r) : tokLen r' := by
  obtain ⟨t, rfl, _⟩ := acceptT_sub h
  exact hl.tl
theorem takeT_len {k : Nat} {r r' : List Tok} {s : L} (h : takeT k r = .ok (s, r')) (hl : tokLen r) : tokLen r' := by
  obtain ⟨t, rfl, _⟩ := takeT_sub h
  exact hl.tl
/-- A row of strings of the call's own beside the parser. -/
structure VaI (w0 : World) (b n : Nat) (r : List Tok) (v : Value) (l : List BA) (W : World) : Prop where
  prs : PrsI b n r W
  row : W.ownsRow w0.heap.size 9 1 v l.length (l.map .string)
  grown : w0.grownBy W (some b)
  lt : b < w0.heap.size
theorem VaI.step {w0 : World} {b n : Nat} {r r' : List Tok} {v : Value} {l : List BA} {W W' : World} (h : VaI w0 b n r v l W) (hp : PrsI b n r' W') (hg : W.grownBy W' (some b)) : VaI w0 b n r' v l W' :=
  ⟨hp, own_grown h.row hg (fun x hx => by cases hx; exact h.lt), grown_more h.grown hg (fun x hx => .inr hx), h.lt⟩
theorem VaI.more {w0 : World} {b n : Nat} {r : List Tok} {v : Value} {l : List BA} {W W' : World} {s : BA} {g cap : Nat} (h : VaI w0 b n r v l W)
    (ho : W'.ownsRow w0.heap.size 9 1 (.slice (some ⟨g, 0, none⟩) (l.length + 1) cap) (l.length + 1) (l.map .string ++ [.string s])) (hg : W.grownBy W' v.ownBlock) : VaI w0 b n r (.slice (some ⟨g, 0, none⟩) (l ++ [s]).length cap) (l ++ [s]) W' :=
  ⟨h.prs.kept hg (fun x hx => by have := own_blk h.row hx; have := h.lt; omega), by simpa using ho, grown_more h.grown hg (fun x hx => .inl (own_blk h.row hx)), h.lt⟩
theorem VaI.alloc {w0 : World} {b n : Nat} {r : List Tok} {v : Value} {l : List BA} {W : World} (h : VaI w0 b n r v l W) (o : Obj) : VaI w0 b n r v l (W.alloc o) := by
  have hb : Below W.heap.size W (W.alloc o) := (Below.refl _ _).alloc (Nat.le_refl _) _
  exact h.step (h.prs.kept (below_grown hb none) (fun x hx => by cases hx)) (below_grown hb _)
theorem own_one (w2 W : World) (s : BA) (h : w2.heap.size ≤ W.heap.size) : (W.alloc (.cells #[.string s] 9)).ownsRow w2.heap.size 9 1 (.slice (some ⟨W.heap.size, 0, none⟩) 1 1) 1 [.string s] :=
  World.ownsRow_lit W #[.string s] 1 h (by unfold maxLen; omega) rfl
def lenV : Value → Nat
  | .slice _ n _ => n
  | _ => 0
theorem moreT_succ (f : Nat) (l : List BA) (r : List Tok) : moreT (f + 1) l r = match acceptT 4 [44] r with
    | none => .ok (l, r)
    | some r1 => if l.length = 60 ∧ isStr r1 = true then .error (2, r1) else bnd (takeT 3 r1) (fun p => moreT f (l ++ [ba p.1]) p.2) := rfl
theorem isStr_iff (t : Tok) (r : List Tok) : isStr (t :: r) = decide (t.kind = 3) := rfl
set_option maxRecDepth 100000 in
set_option maxHeartbeats 16000000 in
theorem values_any (b n : Nat) (r : List Tok) (w : World) (h : PrsI b n r w) (hr : tokLen r) :
    Calls Tryz.prog 46 #[.pointer (some ⟨b, 0, none⟩)] w fun e w' =>
      (∃ l r' v, valuesT r = .ok (l, r') ∧ e = .returned v ∧ VaI w b n r' v l w') ∨ ∃ x, valuesT r = .error x ∧ e = fltE n x ∧ w.grownBy w' (some b) := by
  obtain ⟨i0, hi, hz0, hz1, hz2⟩ := info_split info_rstring
  have HI := hide hi
  have HZ0 := hide hz0
  have HZ1 := hide hz1
  have HZ2 := hide hz2
  have HT := hide (take_any b n 3 r w h hr)
  have HLT := hide h.lt
  obtain ⟨V, hV⟩ : ∃ V, valuesT r = V := ⟨_, rfl⟩
  rw [hV]
  have HV := hide hV
  have HR := hide hr
  clear h hr hi hz0 hz1 hz2 hV
  go_enter Tryz.func46, Tryz.ntmps46
  go_wp2_with fail
  refine HT.out.mono ?_
  rintro _ w1 (⟨s, r1, h1, rfl, h2, h3⟩ | ⟨x, h1, rfl, h2⟩)
  · have HV1 : Hid (moreT (r1.length + 1) [ba s] r1 = V) := by
      rw [← HV.out]; unfold valuesT; rw [h1]; exact hide rfl
    have HL1 := hide (takeT_len h1 HR.out)
    have HVA : Hid (VaI w b n r1 (.slice (some ⟨w1.heap.size, 0, none⟩) 1 1) [ba s] (w1.alloc (.cells #[.string (ba s)] 9))) := by
      have hb : Below w1.heap.size w1 (w1.alloc (.cells #[.string (ba s)] 9)) := (Below.refl _ _).alloc (Nat.le_refl _) _
      exact hide ⟨h2.kept (below_grown hb none) (fun x hx => by cases hx), own_one w w1 (ba s) h3.size, grown_more h3 (below_grown hb none) (fun x hx => by cases hx), HLT.out⟩
    clear h1 h2 h3 HT HV HR
    go_wp2_with fail
    go_loopw [3] (fun vl wr => ∃ (f : Nat) (r1 : List Tok) (A : Option Addr) (c : Nat) (l : List BA), vl = .slice A l.length c ∧ Hid (r1.length < f) ∧ l.length ≤ 60 ∧ Hid (moreT f l r1 = V) ∧ Hid (VaI w b n r1 (.slice A l.length c) l wr) ∧ Hid (tokLen r1)) (fun vl _ => 60 - lenV vl)
    case atStart => exact ⟨_, r1, _, _, [ba s], rfl, hide (Nat.lt_succ_self _), by simp, HV1, HVA, HL1⟩
    case round =>
      clear HV1 HL1 HVA
      obtain ⟨f, r1, A, c, l, rfl, hf, hl, hmv, hva, hlen⟩ := hrel
      obtain ⟨f, rfl⟩ : ∃ f', f = f' + 1 := ⟨f - 1, by have := hf.out; omega⟩
      have hmv2 := hmv.out
      rw [moreT_succ] at hmv2
      have HMV := hide hmv2
      have HF := hide hf.out
      have HAC := hide (accept_one b n 4 r1 [44] wr hva.out.prs)
      have HVA := hide hva.out
      have HLN := hide hlen.out
      clear hf hmv hmv2 hva hlen
      go_wp2_with fail
      refine HAC.out.mono ?_
      rintro _ w2 (⟨h1, rfl, h2, h3⟩ | ⟨r2, h1, rfl, h2, h3⟩)
      · have HV2 : Hid (V = .ok (l, r1)) := by rw [← HMV.out, h1]; exact hide rfl
        have HVB := hide (HVA.out.step h2 h3)
        clear h1 h2 h3 HMV HAC HVA
        go_wp2_with fail
        go_ret
        exact .inl ⟨_, _, _, HV2.out, rfl, HVB.out⟩
      · have HMW := HMV.out
        rw [h1] at HMW
        replace HMW : (if l.length = 60 ∧ isStr r2 = true then (.error (2, r2) : Res (List BA × List Tok)) else bnd (takeT 3 r2) (fun p => moreT f (l ++ [ba p.1]) p.2)) = V := HMW
        have HMW := hide HMW
        have HL2 := hide (acceptT_len h1 HLN.out)
        have HF2 : Hid (r2.length < f) := by
          obtain ⟨t, rfl, _⟩ := acceptT_sub h1
          have := HF.out
          simp at this
          exact hide (by omega)
        have HVB := hide (HVA.out.step h2 h3)
        have HTK := hide (take_any b n 3 r2 w2 h2 HL2.out)
        have HFL := hide (fail_any b n 2 r2 w2 h2)
        obtain ⟨A2, c2, hbk, hc2, hA2⟩ := h2.cell
        have d0 : w2.cell? ⟨b, 0, none⟩ = some (.slice A2 r2.length c2) := cell_of_row w2 b 0 _ _ _ hbk
        clear hbk h1 h2 h3 HMV HAC HVA HLN
        by_cases hl60 : l.length = 60
        · cases r2 with
          | nil =>
            have HE : Hid (V = .error (5, [])) := by
              rw [← HMW.out, if_neg (by simp [isStr])]
              exact hide rfl
            have l1 : ((l.length : Nat) : Int) = 60 := by omega
            clear hA2
            go_wp2_with fail
            refine HTK.out.mono ?_
            rintro _ w3 (⟨s, r3, h1, rfl, h2, h3⟩ | ⟨x, h1, rfl, h2⟩)
            · cases h1
            · have HG := hide (grown_more HVB.out.grown h2 (fun x hx => .inr hx))
              obtain rfl : x = (5, []) := by cases h1; rfl
              have HX := hide HE.out
              clear h1 h2
              unfold fltE
              go_wp2_with fail
              exact ⟨rfl, .inr ⟨_, HX.out, rfl, HG.out⟩⟩
          | cons t r3 =>
            obtain ⟨g, o, rfl, hg, ht⟩ := hA2.resolve_left (by simp)
            obtain ⟨c0, c1, _, _⟩ := ht 0 t rfl
            simp only [Nat.zero_mul, Nat.add_zero] at c0 c1
            have l1 : ((l.length : Nat) : Int) = 60 := by omega
            have l2 : (t :: r3).length = r3.length + 1 := rfl
            have l3 : (0 : Int) < ((t :: r3).length : Nat) := by rw [l2]; omega
            clear ht hA2
            by_cases hk : t.kind = 3
            · have HE : Hid (V = .error (2, t :: r3)) := by
                rw [← HMW.out, if_pos ⟨hl60, by rw [isStr_iff, hk]; rfl⟩]
                exact hide rfl
              rw [hk] at c0
              clear hk
              go_wp2_with fail
              refine HFL.out.mono ?_
              rintro _ w3 ⟨rfl, rfl⟩
              unfold fltE
              go_wp2_with fail
              exact ⟨rfl, .inr ⟨_, HE.out, rfl, HVB.out.grown⟩⟩
            · have k1 : ¬ ((t.kind : Int) = 3) := by omega
              have k2 : ((t.kind : Int) == 3) = false := beq_eq_false_iff_ne.2 k1
              have k3 : (t.kind == 3) = false := beq_eq_false_iff_ne.2 hk
              have HE : Hid (V = .error (5, t :: r3)) := by
                rw [← HMW.out, if_neg (by rw [isStr_iff, decide_eq_false hk]; simp), takeT_cons, if_neg hk]
                exact hide rfl
              go_wp2_with fail
              refine HTK.out.mono ?_
              rintro _ w3 (⟨s, r4, h1, rfl, h2, h3⟩ | ⟨x, h1, rfl, h2⟩)
              · rw [takeT_cons, if_neg hk] at h1
                cases h1
              · have HG := hide (grown_more HVB.out.grown h2 (fun x hx => .inr hx))
                obtain rfl : x = (5, t :: r3) := by rw [takeT_cons, if_neg hk] at h1; cases h1; rfl
                have HX := hide HE.out
                clear h1 h2
                unfold fltE
                go_wp2_with fail
                exact ⟨rfl, .inr ⟨_, HX.out, rfl, HG.out⟩⟩
        · have HMX := HMW.out
          rw [if_neg (fun e => hl60 e.1)] at HMX
          have HMX := hide HMX
          have l1 : ¬ ((l.length : Nat) : Int) = 60 := by omega
          have l2 : (((l.length : Nat) : Int) == 60) = false := beq_eq_false_iff_ne.2 l1
          have l5 : l.length < 60 := by omega
          clear hA2 HMW
          go_wp2_with fail
          refine HTK.out.mono ?_
          rintro _ w3 (⟨s, r3, h1, rfl, h2, h3⟩ | ⟨x, h1, rfl, h2⟩)
          · have HV3 : Hid (moreT f (l ++ [ba s]) r3 = V) := by
              rw [← HMX.out, h1]; exact hide rfl
            have HL3 := hide (takeT_len h1 HL2.out)
            have HF3 : Hid (r3.length < f) := by
              obtain ⟨t, rfl, _⟩ := takeT_sub h1
              have := HF2.out
              simp at this
              exact hide (by omega)
            have HVC := hide (HVB.out.step h2 h3)
            clear h1 h2 h3 HTK HMX HVB d0 HFL HL2
            go_wp2_with (at_builtin; go_must (refine wpList_append_lies _ rfl (.tmp 32) (.tmp 35) 35 rfl w.heap.size 9 i0 (.string ⟨#[]⟩) 1 16 Tryz.underlying35 HI.out HZ0.out HZ1.out HZ2.out rfl (by decide) (.slice A l.length c) l.length (l.map Value.string) rfl ?c0 ⟨w3.heap.size, 0, none⟩ 1 1 [.string (ba s)] rfl rfl ?c1 ?c2 (by decide) ?c3 ?c4 ?c5 (w3.heap.size + 1) ?c6 ?_))
            case c0 => exact (HVC.out.alloc _).row
            case c1 =>
              intro j u hj
              exact rnew_cells w3 [.string (ba s)] 9 j u hj
            case c2 => intro u hu; simp at hu; subst hu; rfl
            case c3 => unfold maxLen; omega
            case c4 => omega
            case c5 => have := HVC.out.grown.size; simp; omega
            case c6 => simp
            intro g9 cap w9 hown9 hgrow9 hat9 _
            have HV9 := hide ((HVC.out.alloc (.cells #[.string (ba s)] 9)).more hown9 hgrow9)
            have HLE := hide (show Value.slice (some ⟨g9, 0, none⟩) (l.length + 1) cap = .slice (some ⟨g9, 0, none⟩) (l ++ [ba s]).length cap by simp)
            clear hown9 hgrow9 hat9 HVC
            go_wp2_with fail
            refine ⟨⟨f, r3, some ⟨g9, 0, none⟩, cap, l ++ [ba s], HLE.out, HF3, by simp; omega, HV3, HV9, HL3⟩, ?_⟩
            simp [lenV]; omega
          · have HX : Hid (V = .error x) := by rw [← HMX.out, h1]; exact hide rfl
            have HG := hide (grown_more HVB.out.grown h2 (fun x hx => .inr hx))
            clear h1 h2
            unfold fltE
            go_wp2_with fail
            exact ⟨rfl, .inr ⟨_, HX.out, rfl, HG.out⟩⟩
  · have HV1 : Hid (V = .error x) := by
      rw [← HV.out]; unfold valuesT; rw [h1]; exact hide rfl
    have H2 := hide h2
    clear h1 h2
    unfold fltE
    go_wp2_with fail
    exact ⟨rfl, .inr ⟨_, HV1.out, rfl, H2.out⟩⟩
end Go.Proofs.YtoodmhlefaepaaaGreat
