/- The walk of the statement 'TokenKnown'. -/
import Derived.Test.YtkdgomalhngagaaDoorTkAwake
namespace Go.Proofs.YtkdgomalhngagaaDoor
open Go.RowKit

def kA : List Tok.Tk := [(1, [97])]
def kAB : List Tok.Tk := [(1, [65, 32, 66])]
def k1 : List Tok.Tk := [(3, [49, 50, 45, 49, 47, 50]), (1, [79, 39, 78, 69, 73, 76, 39, 83])]
def k2 : List Tok.Tk := [(1, [65]), (1, [66])]
def k3 : List Tok.Tk := [(3, [49, 83, 84])]
def n0 : ByteArray := ⟨#[97, 10]⟩
def n1 : ByteArray := ⟨#[49, 50, 45, 49, 47, 50, 32, 111, 39, 110, 101, 105, 108, 39, 115]⟩
def n2 : ByteArray := ⟨#[45, 97, 46, 46, 98, 45]⟩
def n3 : ByteArray := ⟨#[49, 115, 116]⟩
theorem kn0 : Tok.tokF (nums n0) = ([], 4, 1) := by decide +kernel
theorem kn1 : Tok.tokF (nums n1) = (k1, 0, 0) := by decide +kernel
theorem kn2 : Tok.tokF (nums n2) = (k2, 0, 0) := by decide +kernel
theorem kn3 : Tok.tokF (nums n3) = (k3, 0, 0) := by decide +kernel
theorem ktA : Tok.textF kA = ([], 2) := by decide +kernel
theorem ktAB : Tok.textF kAB = ([], 2) := by decide +kernel
theorem okA : Okl kA := by intro t ht; simp [kA] at ht; subst ht; exact ⟨by decide, by decide⟩
theorem okAB : Okl kAB := by intro t ht; simp [kAB] at ht; subst ht; exact ⟨by decide, by decide⟩
set_option maxRecDepth 100000 in
set_option maxHeartbeats 4000000 in
theorem tknown_walk (w : World) : Calls Tryd.prog 10 #[] w fun e w' => e = .returned (.bool true) ∧ Below w.heap.size w w' := by
  have ht0 := fun w => tokens_any n0 (by decide) w
  rw [kn0] at ht0
  go_enter Tryd.func10, Tryd.ntmps10
  go_wp2_with fail
  refine (ht0 _).mono ?_
  rintro e w1 ⟨A1, c1, rfl, -, hb1⟩
  go_wp2_with fail
  refine (word_tk _ _).mono ?_
  rintro e w2 ⟨rfl, hb2⟩
  have h2 := Block.shows (Block.new w2 31 (TC kA)) (size := 2) (n := 1) rfl
  have x2 := text_any (c := 1) _ h2 (by simp) (by omega) okA
  rw [ktA] at x2
  go_wp2_with fail
  refine x2.mono ?_
  rintro e w3 ⟨rfl, hb3⟩
  clear x2 h2
  go_wp2_with fail
  refine (word_tk _ _).mono ?_
  rintro e w4 ⟨rfl, hb4⟩
  have h4 := Block.shows (Block.new w4 31 (TC kAB)) (size := 2) (n := 1) rfl
  have x4 := text_any (c := 1) _ h4 (by simp) (by omega) okAB
  rw [ktAB] at x4
  go_wp2_with fail
  refine x4.mono ?_
  rintro e w5 ⟨rfl, hb5⟩
  clear x4 h4
  go_wp2_with fail
  refine (tok_awake _).mono ?_
  rintro e w6 ⟨rfl, hb6⟩
  go_wp2_with fail
  refine (mixed_tk _ _).mono ?_
  rintro e w7 ⟨rfl, hb7⟩
  go_wp2_with fail
  refine (word_tk _ _).mono ?_
  rintro e w8 ⟨rfl, hb8⟩
  have h8 := Block.shows (Block.new w8 31 (TC k1)) (size := 2) (n := 2) rfl
  have x8 := is_true (c := 2) (s := n1) _ (by decide) h8 (by simp) (by omega) kn1
  go_wp2_with fail
  refine x8.mono ?_
  rintro e w9 ⟨rfl, hb9⟩
  clear x8 h8
  go_wp2_with fail
  refine (word_tk _ _).mono ?_
  rintro e w10 ⟨rfl, hb10⟩
  go_wp2_with fail
  refine (word_tk _ _).mono ?_
  rintro e w11 ⟨rfl, hb11⟩
  have h11 := Block.shows (Block.new w11 31 (TC k2)) (size := 2) (n := 2) rfl
  have x11 := is_true (c := 2) (s := n2) _ (by decide) h11 (by simp) (by omega) kn2
  go_wp2_with fail
  refine x11.mono ?_
  rintro e w12 ⟨rfl, hb12⟩
  clear x11 h11
  go_wp2_with fail
  refine (mixed_tk _ _).mono ?_
  rintro e w13 ⟨rfl, hb13⟩
  have h13 := Block.shows (Block.new w13 31 (TC k3)) (size := 2) (n := 1) rfl
  have x13 := is_true (c := 1) (s := n3) _ (by decide) h13 (by simp) (by omega) kn3
  have f0 := Block.new w1 25 [.int .i64 4, .int .i64 1]
  have f1 := f0.call hb2
  have f2 := f1.alloc (.cells (TC kA).toArray 31)
  have f3 := f2.call hb3
  have f4 := f3.call hb4
  have f5 := f4.alloc (.cells (TC kAB).toArray 31)
  have f6 := f5.call hb5
  have f7 := f6.call hb6
  have f8 := f7.call hb7
  have f9 := f8.call hb8
  have f10 := f9.alloc (.cells (TC k1).toArray 31)
  have f11 := f10.call hb9
  have f12 := f11.call hb10
  have f13 := f12.call hb11
  have f14 := f13.alloc (.cells (TC k2).toArray 31)
  have f15 := f14.call hb12
  have f16 := f15.call hb13
  go_wp2_with fail
  refine x13.mono ?_
  rintro e w14 ⟨rfl, hb14⟩
  have hF2 := (f16.alloc (.cells (TC k3).toArray 31)).call hb14
  have d0 : w14.cell? ⟨w1.heap.size, 0, none⟩ = some (.int .i64 4) := hF2.cell 0
  have d1 : w14.cell? ⟨w1.heap.size, 1, none⟩ = some (.int .i64 1) := hF2.cell 1
  clear x13 h13
  go_wp2_with fail
  go_ret
  exact ⟨rfl, bel_call (bel_alloc (bel_call (bel_call (bel_alloc (bel_call (bel_call (bel_call (bel_alloc (bel_call (bel_call (bel_call (bel_call (bel_alloc (bel_call (bel_call (bel_alloc (bel_call (bel_alloc hb1 _) hb2) _) hb3) hb4) _) hb5) hb6) hb7) hb8) _) hb9) hb10) hb11) _) hb12) hb13) _) hb14⟩
end Go.Proofs.YtkdgomalhngagaaDoor
