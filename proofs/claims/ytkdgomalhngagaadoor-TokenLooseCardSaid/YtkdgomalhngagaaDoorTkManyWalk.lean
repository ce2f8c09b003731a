/- The walk of the statement 'TokenMany'. -/
import Derived.Test.YtkdgomalhngagaaDoorTkAwake
import Derived.Test.YtkdgomalhngagaaDoorTkPick
import Derived.Deep.CutBlock
namespace Go.Proofs.YtkdgomalhngagaaDoor
open Go.RowKit

theorem app_size (S T : ByteArray) : (S ++ T).size = S.size + T.size := ByteArray.size_append
theorem sz1 : (⟨#[97, 32]⟩ : ByteArray).size = 2 := rfl
theorem sz2 : (⟨#[97]⟩ : ByteArray).size = 1 := rfl
theorem Tok.tokF_len (l : List Int) : (Tok.tokF l).1.length ≤ 40 := by
  unfold Tok.tokF
  repeat' split
  all_goals simp_all
set_option maxRecDepth 100000 in
set_option maxHeartbeats 4000000 in
theorem tmany_walk (a : Int) (g : Bool) (w : World) (h : -9223372036854775808 ≤ a ∧ a ≤ 9223372036854775807) :
    Calls Tryd.prog 5 #[.int .i64 a, .bool g] w fun e w' => e = .returned (.bool true) ∧ Below w.heap.size w w' := by
  have p5 := fun w => pick_any a 5 w h.1 h.2 (by omega) (by omega)
  have p10 := fun w => pick_any a 10 w h.1 h.2 (by omega) (by omega)
  clear h
  go_enter Tryd.func5, Tryd.ntmps5
  go_upto_block 0 with fail
  go_cut [5] (fun s wx => ∃ S : ByteArray, s = .string S ∧ S.size ≤ 84 ∧ w = wx)
  case first =>
    go_wp2_with fail
    go_loopw [6, 5] (fun i s wr => ∃ k : Nat, k ≤ 42 ∧ i = .int .i64 k ∧ ∃ S : ByteArray, s = .string S ∧ S.size ≤ 2 * k ∧ w = wr) (fun i _ _ => 43 - (RowKit.intOf i).toNat)
    case atStart => exact ⟨0, by omega, rfl, ⟨#[]⟩, rfl, by decide, rfl⟩
    case round =>
      obtain ⟨k, hk, rfl, S, rfl, hS, hw⟩ := hrel
      subst hw
      go_wp2_with fail
      refine (p5 _).mono ?_
      rintro e w1 ⟨m, hm, rfl, hw⟩
      subst hw
      by_cases hlt : k < 38 + m
      · have q1 : (k : Int) < 38 + (m : Int) := by omega
        have t1 : decide ((k : Int) < 38 + (m : Int)) = true := decide_eq_true q1
        cases g
        · go_wp2_with fail
          go_roundw
          case rel => exact ⟨k + 1, by omega, by go_num, _, rfl, by rw [app_size, sz1]; omega, by trivial⟩
          case measure => simp [RowKit.intOf]; omega
        · go_wp2_with fail
          go_meet
          exact ⟨S, rfl, by omega, rfl⟩
      · have q1 : ¬ (k : Int) < 38 + (m : Int) := by omega
        have t1 : decide ((k : Int) < 38 + (m : Int)) = false := decide_eq_false q1
        go_wp2_with fail
        go_meet
        exact ⟨S, rfl, by omega, rfl⟩
  case rest =>
    obtain ⟨S0, rfl, hS0, hw⟩ := hcut
    subst hw
    go_upto_block 2 with fail
    go_cut [5] (fun s wx => ∃ S : ByteArray, s = .string S ∧ S.size ≤ 1000 ∧ w = wx)
    case first =>
      go_wp2_with fail
      go_loopw [7, 5] (fun i s wr => ∃ k : Nat, k ≤ 204 ∧ i = .int .i64 k ∧ ∃ S : ByteArray, s = .string S ∧ S.size ≤ 84 + k ∧ w = wr) (fun i _ _ => 205 - (RowKit.intOf i).toNat)
      case atStart => exact ⟨0, by omega, rfl, S0, rfl, by omega, rfl⟩
      case round =>
        obtain ⟨k, hk, rfl, S, rfl, hS, hw⟩ := hrel
        subst hw
        go_wp2_with fail
        refine (p10 _).mono ?_
        rintro e w1 ⟨m, hm, rfl, hw⟩
        subst hw
        by_cases hlt : k < 195 + m
        · have q1 : (k : Int) < 195 + (m : Int) := by omega
          have t1 : decide ((k : Int) < 195 + (m : Int)) = true := decide_eq_true q1
          cases g
          · go_wp2_with fail
            go_meet
            exact ⟨S, rfl, by omega, rfl⟩
          · go_wp2_with fail
            go_roundw
            case rel => exact ⟨k + 1, by omega, by go_num, _, rfl, by rw [app_size, sz2]; omega, by trivial⟩
            case measure => simp [RowKit.intOf]; omega
        · have q1 : ¬ (k : Int) < 195 + (m : Int) := by omega
          have t1 : decide ((k : Int) < 195 + (m : Int)) = false := decide_eq_false q1
          go_wp2_with fail
          go_meet
          exact ⟨S, rfl, by omega, rfl⟩
    case rest =>
      obtain ⟨S, rfl, hS, hw⟩ := hcut
      subst hw
      have hx := fun w => tokens_any S (by omega) w
      have hy := fun w => rtokens_any S (by omega) w
      have hlr : (Tok.tokF (nums S)).1.length ≤ 1000000 := by have := Tok.tokF_len (nums S); omega
      obtain ⟨⟨r, e1, e2⟩, hr⟩ : ∃ r, Tok.tokF (nums S) = r := ⟨_, rfl⟩
      rw [hr] at hx hy hlr
      clear hr
      go_wp2_with fail
      refine (hx _).mono ?_
      rintro e w1 ⟨A1, c1, rfl, hown1, hb1⟩
      go_wp2_with fail
      refine (hy _).mono ?_
      rintro e w2 ⟨A2, c2, rfl, hown2, hb2⟩
      have k1 := ((Shows.of_own hown1).alloc (Nat.le_refl _) (.cells #[.int .i64 e1, .int .i64 e2] 25)).call hb2 (by simp)
      have k2 := Shows.of_own hown2
      have f1 := (Block.new w1 25 [.int .i64 e1, .int .i64 e2]).call hb2
      have f2 := Block.new w2 25 [.int .i64 e1, .int .i64 e2]
      have bel2 : Below w.heap.size w w2 := bel_call (bel_alloc hb1 _) hb2
      have hsm := same_true (c := c1) (c' := c2) (k1.alloc (by have := hb2.size; simp at this; omega) (.cells #[.int .i64 e1, .int .i64 e2] 25)) (k2.alloc (Nat.le_refl _) (.cells #[.int .i64 e1, .int .i64 e2] 25)) hlr
      have g1 := f1.alloc (.cells #[.int .i64 e1, .int .i64 e2] 25)
      have t1 : (e1 == e1) = true := by simp
      have t2 : (e2 == e2) = true := by simp
      go_wp2_with fail
      refine hsm.mono ?_
      rintro e w3 ⟨rfl, m, hm⟩
      have d0 : w3.cell? ⟨w1.heap.size, 0, none⟩ = some (.int .i64 e1) := by subst hm; exact g1.cell 0
      have d1 : w3.cell? ⟨w1.heap.size, 1, none⟩ = some (.int .i64 e2) := by subst hm; exact g1.cell 1
      have d2 : w3.cell? ⟨w2.heap.size, 0, none⟩ = some (.int .i64 e1) := by subst hm; exact f2.cell 0
      have d3 : w3.cell? ⟨w2.heap.size, 1, none⟩ = some (.int .i64 e2) := by subst hm; exact f2.cell 1
      have bel3 : Below w.heap.size w w3 := by subst hm; exact bel_drewN (bel_alloc bel2 _) m
      clear hm hsm k1 k2 f1 f2 g1 hown1 hown2
      go_wp2_with fail
      refine (tok_awake _).mono ?_
      rintro e w4 ⟨rfl, hb4⟩
      go_wp2_with fail
      go_ret
      exact ⟨rfl, bel_call bel3 hb4⟩
end Go.Proofs.YtkdgomalhngagaaDoor
