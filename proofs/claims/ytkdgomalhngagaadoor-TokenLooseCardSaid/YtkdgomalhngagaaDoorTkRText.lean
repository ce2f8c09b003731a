/- The walk of the document's Text. -/
import Derived.Test.YtkdgomalhngagaaDoorTkMay
namespace Go.Proofs.YtkdgomalhngagaaDoor
open Go.RowKit Go.Lib

set_option maxRecDepth 100000 in
set_option maxHeartbeats 8000000 in
theorem rtext_any {A : Option Addr} {n c B : Nat} {l : List Tok.Tk} (w : World) (hA : Shows w B 2 A n (TC l)) (hB : B ≤ w.heap.size) (hn : n ≤ 9223372036854775807) (hok : Okl l) :
    Calls Tryd.prog 19 #[.slice A n c] w fun e w' => e = .returned (.tuple #[.string (strOfNums (Tok.textF l).1), .int .i64 (Tok.textF l).2]) ∧ Below w.heap.size w w' := by
  have hln := hA.numT
  by_cases h40 : 40 < n
  · rw [Tok.textF_full (by omega)]
    clear hln
    go_enter Tryd.func19, Tryd.ntmps19
    go_wp2_with fail
    go_ret2
    exact ⟨rfl, Below.refl _ _⟩
  · have Hn := Lib.hid hln
    have Hok := Lib.hid hok
    clear hln hok
    go_enter Tryd.func19, Tryd.ntmps19
    go_wp2_with fail
    go_loopw [5] (fun i wr => ∃ a : Nat, a ≤ n ∧ i = .int .i64 a ∧ Hid (∀ x ∈ l.take a, Tok.mayF x) ∧ Below w.heap.size w wr) (fun i _ => n - (RowKit.intOf i).toNat)
    case atStart => exact ⟨0, by omega, rfl, Lib.hid (by simp), Below.refl _ _⟩
    case round =>
      obtain ⟨a, ha, rfl, Hmay, hbel⟩ := hrel
      by_cases hlt : a < n
      · obtain ⟨x, hx⟩ : ∃ x, l[a]? = some x := ⟨l[a]'(by rw [Hn.out]; exact hlt), List.getElem?_eq_getElem _⟩
        have q1 : (a : Int) < (n : Int) := by omega
        have hxl : x ∈ l := List.mem_of_getElem? hx
        have hmc := fun w => rmay_any x (Hok.out x hxl) w
        obtain ⟨b, off, rfl, hbB, g1, g2⟩ := (hA.below (hbel.mono hB)).tk hx
        have Hx := Lib.hid hx
        clear hx
        by_cases hm : Tok.mayF x
        · have Hmay2 : Hid (∀ y ∈ l.take (a + 1), Tok.mayF y) := Lib.hid (fun y hy => by
            rw [List.take_add_one, Hx.out, List.mem_append] at hy
            rcases hy with g | g
            · exact Hmay.out y g
            · simp at g; subst g; exact hm)
          rw [decide_eq_true hm] at hmc
          clear hm hxl
          obtain ⟨k, t⟩ := x
          simp only at hmc g1 g2
          go_wp2_with fail
          refine (hmc _).mono ?_
          rintro e w1 ⟨rfl, hb1⟩
          go_wp2_with fail
          go_roundw
          case rel => exact ⟨a + 1, by omega, by go_num, Hmay2, bel_call hbel hb1⟩
          case measure => simp [RowKit.intOf]; omega
        · have Hr := Lib.hid (Tok.textF_arg (by rw [Hn.out]; exact h40) hxl hm)
          rw [decide_eq_false hm] at hmc
          clear hm hxl
          obtain ⟨k, t⟩ := x
          simp only at hmc g1 g2
          go_wp2_with fail
          refine (hmc _).mono ?_
          rintro e w1 ⟨rfl, hb1⟩
          go_wp2_with fail
          go_ret2
          exact ⟨by rw [Hr.out]; rfl, bel_call hbel hb1⟩
      · obtain rfl : a = n := by omega
        have hall : ∀ x ∈ l, Tok.mayF x := by
          have := Hmay.out
          rwa [List.take_of_length_le (by rw [Hn.out]; exact Nat.le_refl _)] at this
        have Hall := Lib.hid hall
        clear hall Hmay
        go_wp2_with fail
        go_loopw [4, 6] (fun s i wr => ∃ (j : Nat) (acc : List Int) (S : ByteArray), j ≤ a ∧ i = .int .i64 j ∧ s = .string S ∧ Hid (strOfNums acc = S) ∧ S.size ≤ 201 * j ∧ Hid (acc ++ Tok.jn (Tok.pAt l j) (l.drop j) = Tok.textL l) ∧ Below w.heap.size w wr) (fun _ i _ => a - (RowKit.intOf i).toNat)
        case atStart => exact ⟨0, [], ⟨#[]⟩, by omega, rfl, rfl, Lib.hid rfl, Nat.zero_le _, Lib.hid (by rw [Tok.pAt_zero]; rfl), hbel⟩
        case round =>
          obtain ⟨j, acc, S, hj, rfl, rfl, HS, hSl, Hacc, hbel⟩ := hrel
          by_cases hlt : j < a
          · obtain ⟨x, hx⟩ : ∃ x, l[j]? = some x := ⟨l[j]'(by rw [Hn.out]; exact hlt), List.getElem?_eq_getElem _⟩
            have q1 : (j : Int) < (a : Int) := by omega
            have hxl : x ∈ l := List.mem_of_getElem? hx
            obtain ⟨b, off, rfl, hbB, g1, g2⟩ := (hA.below (hbel.mono hB)).tk hx
            have hml := Tok.may_len (Hall.out x hxl)
            have Hacc2 := Lib.hid (Tok.jn_step hx Hacc.out)
            have hst : (strOfNums x.2).size = x.2.length := strOfNums_size _
            obtain ⟨T, hT⟩ : ∃ T, strOfNums x.2 = T := ⟨_, rfl⟩
            rw [hT] at g2 hst
            have HT := Lib.hid hT
            obtain ⟨k, t⟩ := x
            simp only at hml g1 g2 Hacc2 hst HT
            clear hT hx hxl
            rcases Nat.eq_zero_or_pos j with hj0 | hj0
            · subst hj0
              rw [Tok.pAt_zero, if_neg (by simp)] at Hacc2
              go_wp2_with fail
              go_roundw
              case rel => exact ⟨1, acc ++ t, S ++ T, by omega, by go_num, by go_num, Lib.hid (by rw [← str_app, HS.out, HT.out]), by rw [ByteArray.size_append]; omega, Hacc2, hbel⟩
              case measure => simp [RowKit.intOf]; omega
            · have t0 : decide ((j : Int) > 0) = true := decide_eq_true (by omega)
              by_cases hk : k = 4
              · have tk : (k != 4) = false := by simp [hk]
                rw [if_neg (by simp [hk])] at Hacc2
                clear hk
                go_wp2_with fail
                go_roundw
                case rel => exact ⟨j + 1, acc ++ t, S ++ T, by omega, by go_num, by go_num, Lib.hid (by rw [← str_app, HS.out, HT.out]), by rw [ByteArray.size_append]; omega, Hacc2, hbel⟩
                case measure => simp [RowKit.intOf]; omega
              · have tk : (k != 4) = true := by simpa using hk
                obtain ⟨y, hy⟩ : ∃ y, l[j - 1]? = some y := ⟨l[j - 1]'(by rw [Hn.out]; omega), List.getElem?_eq_getElem _⟩
                obtain ⟨b2, off2, e2, -, c1, -⟩ := (hA.below (hbel.mono hB)).tk hy
                simp only [Option.some.injEq, Addr.mk.injEq, and_true] at e2
                obtain ⟨rfl, rfl⟩ := e2
                obtain ⟨i, rfl⟩ : ∃ i, j = i + 1 := ⟨j - 1, by omega⟩
                rw [Nat.add_sub_cancel] at hy c1
                obtain ⟨ky, ty⟩ := y
                have hpy := Tok.pAt_succ hy
                simp only at hpy c1
                have q2 : (i : Int) < (a : Int) := by omega
                by_cases h5 : ky = 5
                · have tky : (ky != 5) = false := by simp [h5]
                  rw [if_neg (by rw [hpy]; simp [h5])] at Hacc2
                  clear hk h5 hpy hy
                  go_wp2_with fail
                  go_roundw
                  case rel => exact ⟨i + 1 + 1, acc ++ t, S ++ T, by omega, by go_num, by go_num, Lib.hid (by rw [← str_app, HS.out, HT.out]), by rw [ByteArray.size_append]; omega, Hacc2, hbel⟩
                  case measure => simp [RowKit.intOf]; omega
                · have tky : (ky != 5) = true := by simpa using h5
                  rw [if_pos ⟨by rw [hpy]; simpa using h5, hk⟩] at Hacc2
                  have h32 : (S ++ (⟨#[32]⟩ : ByteArray)).size = S.size + 1 := by rw [ByteArray.size_append]; rfl
                  clear hk h5 hpy hy
                  go_wp2_with fail
                  go_roundw
                  case rel => exact ⟨i + 1 + 1, acc ++ 32 :: t, (S ++ ⟨#[32]⟩) ++ T, by omega, by go_num, by go_num, Lib.hid (by rw [← HS.out, ← HT.out, show (⟨#[32]⟩ : ByteArray) = strOfNums [32] from rfl, str_app, str_app]; simp), by rw [ByteArray.size_append, h32]; omega, Hacc2, hbel⟩
                  case measure => simp [RowKit.intOf]; omega
          · obtain rfl : j = a := by omega
            have hT : acc = Tok.textL l := by
              have := Hacc.out
              rwa [List.drop_of_length_le (by rw [Hn.out]; exact Nat.le_refl _), Tok.jn, List.append_nil] at this
            have hsl : S.size = acc.length := by rw [← HS.out, strOfNums_size]
            by_cases h200 : 200 < S.size
            · have Hr := Lib.hid (Tok.textF_long (by rw [Hn.out]; exact h40) Hall.out (by rw [← hT, ← hsl]; exact h200))
              clear hT hsl
              go_wp2_with fail
              go_ret2
              exact ⟨by rw [Hr.out]; rfl, hbel⟩
            · have Hr := Lib.hid (Tok.textF_fine (by rw [Hn.out]; exact h40) Hall.out (by rw [← hT, ← hsl]; exact h200))
              have HT := Lib.hid hT
              clear hT hsl
              go_wp2_with fail
              go_ret2
              exact ⟨by rw [Hr.out, ← HT.out, HS.out]; rfl, hbel⟩
end Go.Proofs.YtkdgomalhngagaaDoor
