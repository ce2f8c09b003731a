/- The walks of the law's tokens, of main, is, awake. -/
import Derived.Test.YtkdgomalhngagaaDoorTkText
import Derived.Test.YtkdgomalhngagaaDoorTkRText
namespace Go.Proofs.YtkdgomalhngagaaDoor
open Go.RowKit

/-- The tokens of the chapter's first line. -/
def L6 : List Tok.Tk := [(2, [49, 50]), (1, [77, 65, 73, 78]), (1, [83, 84]), (4, [44]), (5, [35]), (2, [52])]
def sLine : ByteArray := ⟨#[49, 50, 32, 77, 97, 105, 110, 32, 83, 116, 46, 44, 32, 35, 52]⟩
def sText : ByteArray := ⟨#[49, 50, 32, 77, 65, 73, 78, 32, 83, 84, 44, 32, 35, 52]⟩
theorem line_toks : Tok.tokF (nums sLine) = (L6, 0, 0) := by decide +kernel
theorem line_text : Tok.textF L6 = (nums sText, 0) := by decide +kernel
theorem okT_str (k : Int) (s : ByteArray) (hs : s.size ≤ 1000000) : OkT (k, nums s) := ⟨nums_byte s, by rw [nums_len]; exact hs⟩
theorem okl6 : Okl L6 := by
  intro t ht
  simp [L6] at ht
  rcases ht with rfl | rfl | rfl | rfl | rfl | rfl <;> exact ⟨by decide, by decide⟩
section
set_option maxRecDepth 100000
theorem word_tk (s : ByteArray) (w : World) : Calls Tryd.prog 22 #[.string s] w fun e w' => e = .returned (.agg #[.int .i64 1, .string s]) ∧ Below w.heap.size w w' := by
  go_enter Tryd.func22, Tryd.ntmps22
  go_wp2_with fail
  exact ret_c (T := 31) rfl rfl rfl (Block.new w 31 [.int .i64 1, .string s]) agg_token size_token ⟨rfl, bel_alloc (Below.refl _ _) _⟩
theorem number_tk (s : ByteArray) (w : World) : Calls Tryd.prog 39 #[.string s] w fun e w' => e = .returned (.agg #[.int .i64 2, .string s]) ∧ Below w.heap.size w w' := by
  go_enter Tryd.func39, Tryd.ntmps39
  go_wp2_with fail
  exact ret_c (T := 31) rfl rfl rfl (Block.new w 31 [.int .i64 2, .string s]) agg_token size_token ⟨rfl, bel_alloc (Below.refl _ _) _⟩
theorem mixed_tk (s : ByteArray) (w : World) : Calls Tryd.prog 23 #[.string s] w fun e w' => e = .returned (.agg #[.int .i64 3, .string s]) ∧ Below w.heap.size w w' := by
  go_enter Tryd.func23, Tryd.ntmps23
  go_wp2_with fail
  exact ret_c (T := 31) rfl rfl rfl (Block.new w 31 [.int .i64 3, .string s]) agg_token size_token ⟨rfl, bel_alloc (Below.refl _ _) _⟩
theorem comma_tk (w : World) : Calls Tryd.prog 40 #[] w fun e w' => e = .returned (.agg #[.int .i64 4, .string ⟨#[44]⟩]) ∧ Below w.heap.size w w' := by
  go_enter Tryd.func40, Tryd.ntmps40
  go_wp2_with fail
  exact ret_c (T := 31) rfl rfl rfl (Block.new w 31 [.int .i64 4, .string ⟨#[44]⟩]) agg_token size_token ⟨rfl, bel_alloc (Below.refl _ _) _⟩
theorem hash_tk (w : World) : Calls Tryd.prog 41 #[] w fun e w' => e = .returned (.agg #[.int .i64 5, .string ⟨#[35]⟩]) ∧ Below w.heap.size w w' := by
  go_enter Tryd.func41, Tryd.ntmps41
  go_wp2_with fail
  exact ret_c (T := 31) rfl rfl rfl (Block.new w 31 [.int .i64 5, .string ⟨#[35]⟩]) agg_token size_token ⟨rfl, bel_alloc (Below.refl _ _) _⟩
end
/-- What a list in a new block is. -/
def NewL (l : List Tok.Tk) (n : Nat) (w : World) (e : Ending) (w' : World) : Prop := ∃ g, e = .returned (.slice (some ⟨g, 0, none⟩) n n) ∧ Shows w' w'.heap.size 2 (some ⟨g, 0, none⟩) n (TC l) ∧ Below w.heap.size w w'
set_option maxRecDepth 100000 in
set_option maxHeartbeats 2000000 in
theorem main_any (w : World) : Calls Tryd.prog 28 #[] w (NewL L6 6 w) := by
  go_enter Tryd.func28, Tryd.ntmps28
  go_wp2_with fail
  refine (number_tk _ _).mono ?_
  rintro e w1 ⟨rfl, hb1⟩
  go_wp2_with fail
  refine (word_tk _ _).mono ?_
  rintro e w2 ⟨rfl, hb2⟩
  go_wp2_with fail
  refine (word_tk _ _).mono ?_
  rintro e w3 ⟨rfl, hb3⟩
  go_wp2_with fail
  refine (comma_tk _).mono ?_
  rintro e w4 ⟨rfl, hb4⟩
  go_wp2_with fail
  refine (hash_tk _).mono ?_
  rintro e w5 ⟨rfl, hb5⟩
  go_wp2_with fail
  refine (number_tk _ _).mono ?_
  rintro e w6 ⟨rfl, hb6⟩
  go_wp2_with fail
  go_ret
  refine ⟨w6.heap.size, rfl, ?_, bel_alloc (bel_call (bel_call (bel_call (bel_call (bel_call hb1 hb2) hb3) hb4) hb5) hb6) _⟩
  have h := Block.shows (Block.new w6 31 (TC L6)) (size := 2) (n := 6) rfl
  exact h.up (by simp)
set_option maxRecDepth 100000 in
set_option maxHeartbeats 2000000 in
theorem is_true {s : ByteArray} {A : Option Addr} {n c B : Nat} {l : List Tok.Tk} (w : World) (hs : s.size ≤ 1000000) (hA : Shows w B 2 A n (TC l)) (hB : B ≤ w.heap.size) (hn : n ≤ 1000000) (ht : Tok.tokF (nums s) = (l, 0, 0)) :
    Calls Tryd.prog 21 #[.string s, .slice A n c] w fun e w' => e = .returned (.bool true) ∧ Below w.heap.size w w' := by
  have htk := fun w => tokens_any s hs w
  rw [ht] at htk
  have hln := hA.numT
  go_enter Tryd.func21, Tryd.ntmps21
  go_wp2_with fail
  refine (htk _).mono ?_
  rintro e w1 ⟨A1, c1, rfl, hown, hb1⟩
  simp only at hown
  have h1 := (shows_row hown).alloc (Nat.le_refl _) (.cells #[.int .i64 0, .int .i64 0] 25)
  have h2 := (hA.call hb1 hB).alloc (Nat.le_trans hB hb1.size) (.cells #[.int .i64 0, .int .i64 0] 25)
  rw [hln] at h1
  have hsm := same_true (c := c1) (c' := c) h1 h2 hn
  simp only [hln]
  go_wp2_with fail
  refine hsm.mono ?_
  rintro e w2 ⟨rfl, k, rfl⟩
  go_wp2_with fail
  go_ret
  exact ⟨rfl, bel_drewN (bel_alloc hb1 _) k⟩
set_option maxRecDepth 100000 in
set_option maxHeartbeats 2000000 in
theorem tok_awake (w : World) : Calls Tryd.prog 16 #[] w fun e w' => e = .returned (.bool true) ∧ Below w.heap.size w w' := by
  have htx : strOfNums (Tok.textF L6).1 = sText ∧ (Tok.textF L6).2 = 0 := by rw [line_text]; exact ⟨str_nums sText, rfl⟩
  obtain ⟨htx1, htx2⟩ := htx
  have tS : (sText.toList == [49, 50, 32, 77, 65, 73, 78, 32, 83, 84, 44, 32, 35, 52]) = true := by decide +kernel
  go_enter Tryd.func16, Tryd.ntmps16
  go_wp2_with fail
  refine (main_any _).mono ?_
  rintro e w1 ⟨g, rfl, hs1, hb1⟩
  have hte := text_any (c := 6) w1 hs1 (Nat.le_refl _) (by omega) okl6
  rw [htx1, htx2] at hte
  go_wp2_with fail
  refine hte.mono ?_
  rintro e w2 ⟨rfl, hb2⟩
  clear hte
  go_wp2_with fail
  refine (main_any _).mono ?_
  rintro e w3 ⟨g3, rfl, hs3, hb3⟩
  have his := is_true (c := 6) (s := sLine) w3 (by decide) hs3 (Nat.le_refl _) (by omega) line_toks
  go_wp2_with fail
  refine his.mono ?_
  rintro e w4 ⟨rfl, hb4⟩
  go_wp2_with fail
  go_ret
  exact ⟨rfl, bel_call (bel_call (bel_call hb1 hb2) hb3) hb4⟩
end Go.Proofs.YtkdgomalhngagaaDoor
