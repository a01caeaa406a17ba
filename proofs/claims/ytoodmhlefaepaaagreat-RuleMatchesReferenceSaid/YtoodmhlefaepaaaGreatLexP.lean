/-
  The laws' fixed examples, walked: 'head' returns true.
-/
import Derived.Test.YtoodmhlefaepaaaGreatLexN
import Derived.Test.YtoodmhlefaepaaaGreatLexG
namespace Go.Proofs.YtoodmhlefaepaaaGreat
open Go.RowKit Go.Proofs.PlLex

/-- What a call of Lex leaves: the tokens readable in memory. -/
def LexRes (l : L) (w : World) (e : Ending) (w' : World) : Prop :=
  ∃ v, e = .returned (.tuple #[v, .int .i64 ((lex l).2.1 : Int), .int .i64 (lex l).2.2]) ∧ TokS w' v (lex l).1 ∧ Below w.heap.size w w'

theorem lex_offs (l : L) : ((lex l).1.length ≤ 5000 ∧ ∀ t ∈ (lex l).1, t.off ≤ 1000000) := by
  unfold lex
  split
  · exact ⟨Nat.zero_le _, fun t h => by cases h⟩
  · split
    · exact ⟨Nat.zero_le _, fun t h => by cases h⟩
    · split
      · exact ⟨Nat.zero_le _, fun t h => by cases h⟩
      · rename_i h1 h2 _ h3
        refine ⟨Nat.le_of_not_lt h2, fun t ht => ?_⟩
        obtain ⟨j, hj⟩ := List.getElem?_of_mem ht
        have := (scan_cut 0 l h3 j t hj [] (fun k _ c m e => by cases e)).2.1
        omega

theorem LexPost.res {l : L} {w : World} {e : Ending} {w' : World} (h : LexPost w.heap.size l w e w') : LexRes l w e w' := by
  obtain ⟨v, h1, h2, h3⟩ := h
  exact ⟨v, h1, h2.tokS (by have := (lex_offs l).1; omega) (lex_offs l).2, h3⟩
theorem lexR (s : ByteArray) (w : World) (hs : s.size ≤ 1000000) : Calls Tryz.prog 20 #[.string s] w (LexRes s.data.toList w) := (lex_any s w hs).mono fun _ _ h => h.res
theorem rlexR (s : ByteArray) (w : World) (hs : s.size ≤ 1000000) : Calls Tryz.prog 24 #[.string s] w (LexRes s.data.toList w) := (rlex_any s w hs).mono fun _ _ h => h.res
theorem TokS.slice {w : World} {v : Value} {ts : List Tok} (h : TokS w v ts) : ∃ A c, v = .slice A ts.length c := by
  rcases h.2 with ⟨rfl, A, c, rfl⟩ | ⟨g, o, c, rfl, _⟩
  · exact ⟨A, c, rfl⟩
  · exact ⟨_, c, rfl⟩

theorem lexS (s : ByteArray) (ts : List Tok) (er : Nat) (n : Int) (h : lex s.data.toList = (ts, er, n)) (hs : s.size ≤ 1000000) (w : World) : Calls Tryz.prog 20 #[.string s] w fun e w' =>
    ∃ A c, e = .returned (.tuple #[.slice A ts.length c, .int .i64 (er : Int), .int .i64 n]) ∧ TokS w' (.slice A ts.length c) ts ∧ Below w.heap.size w w' :=
  (lexR s w hs).mono fun e w' ⟨v, h1, h2, h3⟩ => by
    rw [h] at h1 h2
    obtain ⟨A, c, rfl⟩ := h2.slice
    exact ⟨A, c, h1, h2, h3⟩
theorem rlexS (s : ByteArray) (ts : List Tok) (er : Nat) (n : Int) (h : lex s.data.toList = (ts, er, n)) (hs : s.size ≤ 1000000) (w : World) : Calls Tryz.prog 24 #[.string s] w fun e w' =>
    ∃ A c, e = .returned (.tuple #[.slice A ts.length c, .int .i64 (er : Int), .int .i64 n]) ∧ TokS w' (.slice A ts.length c) ts ∧ Below w.heap.size w w' :=
  (rlexR s w hs).mono fun e w' ⟨v, h1, h2, h3⟩ => by
    rw [h] at h1 h2
    obtain ⟨A, c, rfl⟩ := h2.slice
    exact ⟨A, c, h1, h2, h3⟩
theorem bto {a b c : World} (h : Below a.heap.size a b) (k : Below b.heap.size b c) : Below a.heap.size a c := h.trans (k.mono h.size)
theorem ltrip (l : L) : ∃ ts er n, lex l = (ts, er, n) := ⟨_, _, _, rfl⟩

def headToks : List Tok := [⟨1, [119, 97, 121], 0⟩, ⟨1, [119, 49], 4⟩, ⟨2, [55], 7⟩, ⟨4, [45], 8⟩, ⟨3, [97, 34, 98], 9⟩]
theorem head_lex1 : lex [119, 97, 121, 32, 119, 49, 32, 55, 45, 34, 97, 92, 34, 98, 34, 35, 32, 121] = (headToks, 0, 0) := by kernel_rfl
theorem head_lex2 : lex [97, 32, 33, 98] = ([], 3, 2) := by kernel_rfl
theorem head_lex3 : lex [55, 120] = ([], 4, 0) := by kernel_rfl
theorem head_lex4 : lex [97, 32, 34, 98] = ([], 3, 2) := by kernel_rfl
theorem head_lex5 : lex [10, 97, 98, 99, 100, 101, 102, 103, 104, 105, 106, 107, 108, 109, 110, 111, 112, 113, 114, 115, 116, 117, 118, 119, 120, 121] = ([], 2, 1) := by kernel_rfl

theorem tokEq_self (k a : Int) (s : ByteArray) : tokEq k a s k a s = true := by simp [tokEq]

theorem head_c1 (w : World) : Calls Tryz.prog 20 #[.string ⟨#[119, 97, 121, 32, 119, 49, 32, 55, 45, 34, 97, 92, 34, 98, 34, 35, 32, 121]⟩] w fun e w' =>
    ∃ g o c, e = .returned (.tuple #[.slice (some ⟨g, o, none⟩) 5 c, .int .i64 0, .int .i64 0]) ∧ g < w'.heap.size ∧ TokAt w' g o headToks ∧ Below w.heap.size w w' := by
  refine (lexR _ w (by decide)).mono ?_
  rintro e w' ⟨v, h1, h2, h3⟩
  rw [show (ByteArray.mk #[119, 97, 121, 32, 119, 49, 32, 55, 45, 34, 97, 92, 34, 98, 34, 35, 32, 121]).data.toList = [119, 97, 121, 32, 119, 49, 32, 55, 45, 34, 97, 92, 34, 98, 34, 35, 32, 121] from rfl, head_lex1] at h1 h2
  rcases h2.2 with ⟨h4, _⟩ | ⟨g, o, c, rfl, hg, ht⟩
  · cases h4
  · exact ⟨g, o, c, h1, hg, ht, h3⟩
theorem head_cn (s : ByteArray) (l : L) (er n : Nat) (hl : s.data.toList = l) (hx : lex l = ([], er, (n : Int))) (hs : s.size ≤ 1000000) (w : World) : Calls Tryz.prog 20 #[.string s] w fun e w' =>
    ∃ A c, e = .returned (.tuple #[.slice A 0 c, .int .i64 (er : Int), .int .i64 (n : Int)]) ∧ Below w.heap.size w w' := by
  refine (lexR s w hs).mono ?_
  rintro e w' ⟨v, h1, h2, h3⟩
  rw [hl, hx] at h1 h2
  obtain ⟨A, c, rfl⟩ := h2.slice
  exact ⟨A, c, h1, h3⟩

theorem head_n (s : ByteArray) (b : Bool) (h : name s.data.toList = b) (hs : s.size ≤ maxLen) (w : World) : Calls Tryz.prog 54 #[.string s] w fun e w' => e = .returned (.bool b) ∧ Below w.heap.size w w' := by
  rw [← h]
  exact pname_any s w hs
theorem head_q (w : World) : Calls Tryz.prog 36 #[.string ⟨#[97, 10, 92]⟩] w fun e w' => e = .returned (.string ⟨#[34, 97, 92, 110, 92, 92, 34]⟩) ∧ Below w.heap.size w w' :=
  pquote_any ⟨#[97, 10, 92]⟩ w (by decide)
