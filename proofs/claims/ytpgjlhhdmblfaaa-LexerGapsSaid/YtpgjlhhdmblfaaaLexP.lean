/-
  The laws' fixed examples, walked: 'head' returns true.
-/
import Derived.Test.YtpgjlhhdmblfaaaLexN
import Derived.Test.YtpgjlhhdmblfaaaLexG
namespace Go.Proofs.Ytpgjlhhdmblfaaa
open Go.RowKit Go.Proofs.PlLex

/-- What a call of Lex leaves: the tokens readable in memory. -/
def LexRes (l : L) (w : World) (e : Ending) (w' : World) : Prop :=
  ∃ v, e = .returned (.tuple #[v, .int .i64 ((lex l).2.1 : Int), .int .i64 (lex l).2.2]) ∧ TokS w' v (lex l).1 ∧ Below w.heap.size w w'

theorem lex_offs (l : L) : ((lex l).1.length ≤ 5000 ∧ ∀ t ∈ (lex l).1, t.off ≤ 1000000) := by
  unfold lex
  split
  · exact ⟨Nat.zero_le _, fun t h => by cases h⟩
  · split
    · exact ⟨Nat.zero_le _, fun t h => by cases h⟩
    · split
      · exact ⟨Nat.zero_le _, fun t h => by cases h⟩
      · rename_i h1 h2 _ h3
        refine ⟨Nat.le_of_not_lt h2, fun t ht => ?_⟩
        obtain ⟨j, hj⟩ := List.getElem?_of_mem ht
        have := (scan_cut 0 l h3 j t hj [] (fun k _ c m e => by cases e)).2.1
        omega

theorem LexPost.res {l : L} {w : World} {e : Ending} {w' : World} (h : LexPost w.heap.size l w e w') : LexRes l w e w' := by
  obtain ⟨v, h1, h2, h3⟩ := h
  exact ⟨v, h1, h2.tokS (by have := (lex_offs l).1; omega) (lex_offs l).2, h3⟩
theorem lexR (s : ByteArray) (w : World) (hs : s.size ≤ 1000000) : Calls Try.prog 12 #[.string s] w (LexRes s.data.toList w) := (lex_any s w hs).mono fun _ _ h => h.res
theorem rlexR (s : ByteArray) (w : World) (hs : s.size ≤ 1000000) : Calls Try.prog 13 #[.string s] w (LexRes s.data.toList w) := (rlex_any s w hs).mono fun _ _ h => h.res
theorem TokS.slice {w : World} {v : Value} {ts : List Tok} (h : TokS w v ts) : ∃ A c, v = .slice A ts.length c := by
  rcases h.2 with ⟨rfl, A, c, rfl⟩ | ⟨g, o, c, rfl, _⟩
  · exact ⟨A, c, rfl⟩
  · exact ⟨_, c, rfl⟩

theorem lexS (s : ByteArray) (ts : List Tok) (er : Nat) (n : Int) (h : lex s.data.toList = (ts, er, n)) (hs : s.size ≤ 1000000) (w : World) : Calls Try.prog 12 #[.string s] w fun e w' =>
    ∃ A c, e = .returned (.tuple #[.slice A ts.length c, .int .i64 (er : Int), .int .i64 n]) ∧ TokS w' (.slice A ts.length c) ts ∧ Below w.heap.size w w' :=
  (lexR s w hs).mono fun e w' ⟨v, h1, h2, h3⟩ => by
    rw [h] at h1 h2
    obtain ⟨A, c, rfl⟩ := h2.slice
    exact ⟨A, c, h1, h2, h3⟩
theorem rlexS (s : ByteArray) (ts : List Tok) (er : Nat) (n : Int) (h : lex s.data.toList = (ts, er, n)) (hs : s.size ≤ 1000000) (w : World) : Calls Try.prog 13 #[.string s] w fun e w' =>
    ∃ A c, e = .returned (.tuple #[.slice A ts.length c, .int .i64 (er : Int), .int .i64 n]) ∧ TokS w' (.slice A ts.length c) ts ∧ Below w.heap.size w w' :=
  (rlexR s w hs).mono fun e w' ⟨v, h1, h2, h3⟩ => by
    rw [h] at h1 h2
    obtain ⟨A, c, rfl⟩ := h2.slice
    exact ⟨A, c, h1, h2, h3⟩
theorem bto {a b c : World} (h : Below a.heap.size a b) (k : Below b.heap.size b c) : Below a.heap.size a c := h.trans (k.mono h.size)
theorem ltrip (l : L) : ∃ ts er n, lex l = (ts, er, n) := ⟨_, _, _, rfl⟩

def headToks : List Tok := [⟨1, [119, 97, 121], 0⟩, ⟨1, [119, 49], 4⟩, ⟨2, [55], 7⟩, ⟨4, [45], 8⟩, ⟨3, [97, 34, 98], 9⟩]
theorem head_lex1 : lex [119, 97, 121, 32, 119, 49, 32, 55, 45, 34, 97, 92, 34, 98, 34, 35, 32, 121] = (headToks, 0, 0) := by kernel_rfl
theorem head_lex2 : lex [97, 32, 33, 98] = ([], 3, 2) := by kernel_rfl
theorem head_lex3 : lex [55, 120] = ([], 4, 0) := by kernel_rfl
theorem head_lex4 : lex [97, 32, 34, 98] = ([], 3, 2) := by kernel_rfl
theorem head_lex5 : lex [10, 97, 98, 99, 100, 101, 102, 103, 104, 105, 106, 107, 108, 109, 110, 111, 112, 113, 114, 115, 116, 117, 118, 119, 120, 121] = ([], 2, 1) := by kernel_rfl

theorem tokEq_self (k a : Int) (s : ByteArray) : tokEq k a s k a s = true := by simp [tokEq]

theorem head_c1 (w : World) : Calls Try.prog 12 #[.string ⟨#[119, 97, 121, 32, 119, 49, 32, 55, 45, 34, 97, 92, 34, 98, 34, 35, 32, 121]⟩] w fun e w' =>
    ∃ g o c, e = .returned (.tuple #[.slice (some ⟨g, o, none⟩) 5 c, .int .i64 0, .int .i64 0]) ∧ g < w'.heap.size ∧ TokAt w' g o headToks ∧ Below w.heap.size w w' := by
  refine (lexR _ w (by decide)).mono ?_
  rintro e w' ⟨v, h1, h2, h3⟩
  rw [show (ByteArray.mk #[119, 97, 121, 32, 119, 49, 32, 55, 45, 34, 97, 92, 34, 98, 34, 35, 32, 121]).data.toList = [119, 97, 121, 32, 119, 49, 32, 55, 45, 34, 97, 92, 34, 98, 34, 35, 32, 121] from rfl, head_lex1] at h1 h2
  rcases h2.2 with ⟨h4, _⟩ | ⟨g, o, c, rfl, hg, ht⟩
  · cases h4
  · exact ⟨g, o, c, h1, hg, ht, h3⟩
theorem head_cn (s : ByteArray) (l : L) (er n : Nat) (hl : s.data.toList = l) (hx : lex l = ([], er, (n : Int))) (hs : s.size ≤ 1000000) (w : World) : Calls Try.prog 12 #[.string s] w fun e w' =>
    ∃ A c, e = .returned (.tuple #[.slice A 0 c, .int .i64 (er : Int), .int .i64 (n : Int)]) ∧ Below w.heap.size w w' := by
  refine (lexR s w hs).mono ?_
  rintro e w' ⟨v, h1, h2, h3⟩
  rw [hl, hx] at h1 h2
  obtain ⟨A, c, rfl⟩ := h2.slice
  exact ⟨A, c, h1, h3⟩

theorem head_n (s : ByteArray) (b : Bool) (h : name s.data.toList = b) (hs : s.size ≤ maxLen) (w : World) : Calls Try.prog 15 #[.string s] w fun e w' => e = .returned (.bool b) ∧ Below w.heap.size w w' := by
  rw [← h]
  exact pname_any s w hs
theorem head_q (w : World) : Calls Try.prog 17 #[.string ⟨#[97, 10, 92]⟩] w fun e w' => e = .returned (.string ⟨#[34, 97, 92, 110, 92, 92, 34]⟩) ∧ Below w.heap.size w w' :=
  pquote_any ⟨#[97, 10, 92]⟩ w (by decide)

set_option maxRecDepth 100000 in
set_option maxHeartbeats 4000000 in
theorem head_any (w : World) : Calls Try.prog 11 #[] w fun e w' => e = .returned (.bool true) ∧ Below w.heap.size w w' := by
  go_enter Try.func11, Try.ntmps11
  go_wp2_with fail
  refine (head_c1 _).mono ?_
  rintro e w1 ⟨g, o, c, rfl, hg, ht, hb1⟩
  go_wp2_with fail
  refine (head_cn _ _ 3 2 rfl head_lex2 (by decide) _).mono ?_
  rintro e w2 ⟨A2, c2, rfl, hb2⟩
  go_wp2_with fail
  refine (head_cn _ _ 4 0 rfl head_lex3 (by decide) _).mono ?_
  rintro e w3 ⟨A3, c3, rfl, hb3⟩
  go_wp2_with fail
  refine (head_cn _ _ 3 2 rfl head_lex4 (by decide) _).mono ?_
  rintro e w4 ⟨A4, c4, rfl, hb4⟩
  go_wp2_with fail
  refine (head_cn _ _ 2 1 rfl head_lex5 (by decide) _).mono ?_
  rintro e w5 ⟨A5, c5, rfl, hb5⟩
  have hb15 : Below w1.heap.size w1 w5 := ((hb2.trans (hb3.mono hb2.size)).trans (hb4.mono (Nat.le_trans hb2.size hb3.size))).trans (hb5.mono (Nat.le_trans (Nat.le_trans hb2.size hb3.size) hb4.size))
  have hb : Below w.heap.size w w5 := hb1.trans (hb15.mono hb1.size)
  have ht' := ht.below hg hb15
  obtain ⟨p1, p2, p3, _⟩ := ht' 1 _ rfl
  obtain ⟨q1, q2, q3, _⟩ := ht' 2 _ rfl
  obtain ⟨r1, r2, r3, _⟩ := ht' 3 _ rfl
  obtain ⟨s1, s2, s3, _⟩ := ht' 4 _ rfl
  have HB := hide hb
  have e1 := tokEq_self 1 4 ⟨#[119, 49]⟩
  have e2 := tokEq_self 2 7 ⟨#[55]⟩
  have e3 := tokEq_self 4 8 ⟨#[45]⟩
  have e4 := tokEq_self 3 9 ⟨#[97, 34, 98]⟩
  clear hb1 hb2 hb3 hb4 hb5 hb15 ht ht' hb
  simp only [Nat.reduceMul] at p1 p2 p3 q1 q2 q3 r1 r2 r3 s1 s2 s3
  go_wp2_with fail
  refine (head_n _ true rfl (by decide) _).mono ?_
  rintro e w6 ⟨rfl, hw6⟩
  go_wp2_with fail
  refine (head_n _ false rfl (by decide) _).mono ?_
  rintro e w7 ⟨rfl, hw7⟩
  go_wp2_with fail
  refine (head_n _ false rfl (by decide) _).mono ?_
  rintro e w8 ⟨rfl, hw8⟩
  go_wp2_with fail
  refine (head_q _).mono ?_
  rintro e w9 ⟨rfl, hw9⟩
  go_wp2_with fail
  go_ret
  have h5 := HB.out.size
  exact ⟨rfl, (((HB.out.trans (hw6.mono h5)).trans (hw7.mono (Nat.le_trans h5 hw6.size))).trans (hw8.mono (Nat.le_trans h5 (Nat.le_trans hw6.size hw7.size)))).trans (hw9.mono (Nat.le_trans h5 (Nat.le_trans hw6.size (Nat.le_trans hw7.size hw8.size))))⟩
