/- The walk of the statement 'HolidayLess'. -/
import Derived.Test.YtfgpndmlellidaaHolKnownWalk
namespace Go.Proofs.Ytfgpndmlellidaa.Hol
theorem base_facts {l : List S6} {jj q d a b : Int} (h0 : (chk l).1 = 0) (ha : 0 ≤ a) (hab : a ≤ b) (hb : b ≤ 1099511627775) : ∃ X Y, baseF l jj q d a = (X, 0) ∧ baseF l jj q d b = (Y, 0) ∧ 0 ≤ X ∧ X ≤ a ∧ X ≤ Y ∧ (asF l jj q d = none → X = a) ∧ (∀ x, asF l jj q d = some x → a ≤ x.f → X = 0) := by
  have h1 : ∀ m, 0 ≤ m → m ≤ 1099511627775 → baseF l jj q d m = match asF l jj q d with | none => (m, 0) | some x => if x.e = 2 then (max (m - x.f) 0, 0) else if m ≤ x.f then (0, 0) else (m, 0) := by
    intro m h1 h2
    unfold baseF
    rw [if_neg (by simpa using h0), if_neg (by omega)]
    rcases asF l jj q d with _ | _ <;> rfl
  rw [h1 a ha (by omega), h1 b (by omega) hb]
  rcases hA : asF l jj q d with _ | x
  · exact ⟨a, b, rfl, rfl, ha, Int.le_refl _, hab, fun _ => rfl, fun x hx => by cases hx⟩
  · obtain ⟨_, hx, _⟩ := as_some hA
    have hv := one_0 (((chk_ok l).1 h0).2.1 x hx)
    by_cases he : x.e = 2
    · simp only [if_pos he]
      exact ⟨_, _, rfl, rfl, by omega, by omega, by omega, fun h => by (cases h), fun y hy hle => by injection hy with hy; subst hy; omega⟩
    · simp only [if_neg he]
      by_cases h2 : a ≤ x.f
      · rw [if_pos h2]
        by_cases h3 : b ≤ x.f
        · rw [if_pos h3]; exact ⟨_, _, rfl, rfl, by omega, by omega, by omega, fun h => by (cases h), fun y hy hle => rfl⟩
        · rw [if_neg h3]; exact ⟨_, _, rfl, rfl, by omega, by omega, by omega, fun h => by (cases h), fun y hy hle => rfl⟩
      · rw [if_neg h2, if_neg (show ¬ b ≤ x.f by omega)]
        exact ⟨_, _, rfl, rfl, by omega, by omega, by omega, fun h => by (cases h), fun y hy hle => by injection hy with hy; subst hy; omega⟩
end Go.Proofs.Ytfgpndmlellidaa.Hol
namespace Go.Proofs.Ytfgpndmlellidaa
open Go.RowKit

set_option maxRecDepth 100000 in
set_option maxHeartbeats 8000000 in
theorem hless_walk (A : Option Addr) (n c : Nat) (l : List S6) (jj q d a b : Int) (w : World) (ha : Shows w w.heap.size 6 A n (RC l)) (_hf : Fit6 l) (_ : n ≤ c) (_ : c ≤ maxLen) (_ : -9223372036854775808 ≤ jj ∧ jj ≤ 9223372036854775807) (_ : -9223372036854775808 ≤ q ∧ q ≤ 9223372036854775807) (_ : -9223372036854775808 ≤ d ∧ d ≤ 9223372036854775807) (_ : -9223372036854775808 ≤ a ∧ a ≤ 9223372036854775807) (_ : -9223372036854775808 ≤ b ∧ b ≤ 9223372036854775807) :
    Calls Try.prog 6 #[.slice A n c, .int .i64 jj, .int .i64 q, .int .i64 d, .int .i64 a, .int .i64 b] w fun e w' => e = .returned (.bool true) ∧ Below w.heap.size w w' := by
  have hB : w.heap.size ≤ w.heap.size := Nat.le_refl _
  have hc := fun (w' : World) (h : Shows w' w.heap.size 6 A n (RC l)) (h' : w.heap.size ≤ w'.heap.size) => check_any A n c l w.heap.size w' h h' (by omega)
  by_cases hbig : 60 < n
  · obtain ⟨E, hE⟩ : ∃ E, Hol.chk l = E := ⟨_, rfl⟩
    rw [hE] at hc
    clear hE
    go_enter Try.func6, Try.ntmps6
    go_wp2_with fail
    refine (hknown_walk _).mono ?_
    rintro e w1 ⟨rfl, hb1⟩
    go_wp2_with fail
    refine (hc _ (ha.call hb1 hB) hb1.size).mono ?_
    rintro e w2 ⟨rfl, hb2⟩
    go_wp2_with fail
    go_ret
    exact ⟨rfl, bel_call hb1 hb2⟩
  have hm : n ≤ maxLen := by omega
  by_cases h0 : (Hol.chk l).1 = 0
  rotate_left
  · generalize (Hol.chk l).1 = E at *
    generalize (Hol.chk l).2 = E2 at *
    have h1 : (E == 0) = false := by simpa using h0
    have h2 : (E != 0) = true := by simpa using h0
    go_enter Try.func6, Try.ntmps6
    go_wp2_with fail
    refine (hknown_walk _).mono ?_
    rintro e w1 ⟨rfl, hb1⟩
    go_wp2_with fail
    refine (hc _ (ha.call hb1 hB) hb1.size).mono ?_
    rintro e w2 ⟨rfl, hb2⟩
    go_wp2_with fail
    go_ret
    exact ⟨rfl, bel_call hb1 hb2⟩
  rw [Hol.chk_00 h0] at hc
  by_cases p1 : a < 0
  · clear h0
    go_enter Try.func6, Try.ntmps6
    go_wp2_with fail
    refine (hknown_walk _).mono ?_
    rintro e w1 ⟨rfl, hb1⟩
    go_wp2_with fail
    refine (hc _ (ha.call hb1 hB) hb1.size).mono ?_
    rintro e w2 ⟨rfl, hb2⟩
    go_wp2_with fail
    go_ret
    exact ⟨rfl, bel_call hb1 hb2⟩
  by_cases p2 : b < a
  · clear h0
    go_enter Try.func6, Try.ntmps6
    go_wp2_with fail
    refine (hknown_walk _).mono ?_
    rintro e w1 ⟨rfl, hb1⟩
    go_wp2_with fail
    refine (hc _ (ha.call hb1 hB) hb1.size).mono ?_
    rintro e w2 ⟨rfl, hb2⟩
    go_wp2_with fail
    go_ret
    exact ⟨rfl, bel_call hb1 hb2⟩
  by_cases p3 : 1099511627775 < b
  · clear h0
    go_enter Try.func6, Try.ntmps6
    go_wp2_with fail
    refine (hknown_walk _).mono ?_
    rintro e w1 ⟨rfl, hb1⟩
    go_wp2_with fail
    refine (hc _ (ha.call hb1 hB) hb1.size).mono ?_
    rintro e w2 ⟨rfl, hb2⟩
    go_wp2_with fail
    go_ret
    exact ⟨rfl, bel_call hb1 hb2⟩
  obtain ⟨X, Y, hX, hY, x0, x1, x2, hnone, hsome⟩ := Hol.base_facts (l := l) (jj := jj) (q := q) (d := d) (a := a) (b := b) h0 (by omega) (by omega) (by omega)
  have hba := fun (w' : World) (h : Shows w' w.heap.size 6 A n (RC l)) (h' : w.heap.size ≤ w'.heap.size) => base_any A n c l jj q d a w.heap.size w' h h' hm
  have hbb := fun (w' : World) (h : Shows w' w.heap.size 6 A n (RC l)) (h' : w.heap.size ≤ w'.heap.size) => base_any A n c l jj q d b w.heap.size w' h h' hm
  rw [hX] at hba
  rw [hY] at hbb
  rcases hA : Hol.asF l jj q d with _ | h
  · have has := fun (w' : World) (h : Shows w' w.heap.size 6 A n (RC l)) (h' : w.heap.size ≤ w'.heap.size) => as_any A n c l jj q d w.heap.size w' h h' hm (xr := S6.zero) (bt := false) (by rw [hA]; rfl)
    obtain rfl := hnone hA
    clear hX hY hnone hsome hA h0
    go_enter Try.func6, Try.ntmps6
    go_wp2_with fail
    refine (hknown_walk _).mono ?_
    rintro e w1 ⟨rfl, hb1⟩
    go_wp2_with fail
    refine (hc _ (ha.call hb1 hB) hb1.size).mono ?_
    rintro e w2 ⟨rfl, hb2⟩
    have bel2 := bel_call hb1 hb2
    go_wp2_with fail
    refine (hba _ (ha.call bel2 hB) bel2.size).mono ?_
    rintro e w3 ⟨rfl, hb3⟩
    have bel3 := bel_call bel2 hb3
    go_wp2_with fail
    refine (hbb _ (ha.call bel3 hB) bel3.size).mono ?_
    rintro e w4 ⟨rfl, hb4⟩
    have bel4 := bel_call bel3 hb4
    go_wp2_with fail
    refine (has _ (ha.call bel4 hB) bel4.size).mono ?_
    rintro e w5 ⟨rfl, hb5⟩
    go_wp2_with fail
    go_ret
    exact ⟨rfl, bel_alloc (bel_call bel4 hb5) _⟩
  have has := fun (w' : World) (h'' : Shows w' w.heap.size 6 A n (RC l)) (h' : w.heap.size ≤ w'.heap.size) => as_any A n c l jj q d w.heap.size w' h'' h' hm (xr := h) (bt := true) (by rw [hA]; rfl)
  obtain ⟨_, _, k1, k2, k3, k4⟩ := Hol.as_some hA
  have e1 : (h.a == jj) = true := by simpa using k1
  by_cases hcap : h.f < a
  · by_cases hq : h.b = q
    · have e2 : (h.b == q) = true := by simpa using hq
      clear hX hY hnone hsome hA h0 k1 k2 hq
      go_enter Try.func6, Try.ntmps6
      go_wp2_with fail
      refine (hknown_walk _).mono ?_
      rintro e w1 ⟨rfl, hb1⟩
      go_wp2_with fail
      refine (hc _ (ha.call hb1 hB) hb1.size).mono ?_
      rintro e w2 ⟨rfl, hb2⟩
      have bel2 := bel_call hb1 hb2
      go_wp2_with fail
      refine (hba _ (ha.call bel2 hB) bel2.size).mono ?_
      rintro e w3 ⟨rfl, hb3⟩
      have bel3 := bel_call bel2 hb3
      go_wp2_with fail
      refine (hbb _ (ha.call bel3 hB) bel3.size).mono ?_
      rintro e w4 ⟨rfl, hb4⟩
      have bel4 := bel_call bel3 hb4
      go_wp2_with fail
      refine (has _ (ha.call bel4 hB) bel4.size).mono ?_
      rintro e w5 ⟨rfl, hb5⟩
      go_wp2_with fail
      go_ret
      exact ⟨rfl, bel_alloc (bel_call bel4 hb5) _⟩
    · have e2 : (h.b == q) = false := by simpa using hq
      have e3 : (h.b == 0) = true := by simp; omega
      clear hX hY hnone hsome hA h0 k1 k2 hq
      go_enter Try.func6, Try.ntmps6
      go_wp2_with fail
      refine (hknown_walk _).mono ?_
      rintro e w1 ⟨rfl, hb1⟩
      go_wp2_with fail
      refine (hc _ (ha.call hb1 hB) hb1.size).mono ?_
      rintro e w2 ⟨rfl, hb2⟩
      have bel2 := bel_call hb1 hb2
      go_wp2_with fail
      refine (hba _ (ha.call bel2 hB) bel2.size).mono ?_
      rintro e w3 ⟨rfl, hb3⟩
      have bel3 := bel_call bel2 hb3
      go_wp2_with fail
      refine (hbb _ (ha.call bel3 hB) bel3.size).mono ?_
      rintro e w4 ⟨rfl, hb4⟩
      have bel4 := bel_call bel3 hb4
      go_wp2_with fail
      refine (has _ (ha.call bel4 hB) bel4.size).mono ?_
      rintro e w5 ⟨rfl, hb5⟩
      go_wp2_with fail
      go_ret
      exact ⟨rfl, bel_alloc (bel_call bel4 hb5) _⟩
  · obtain rfl := hsome h hA (by omega)
    by_cases hq : h.b = q
    · have e2 : (h.b == q) = true := by simpa using hq
      clear hX hY hnone hsome hA h0 k1 k2 hq
      go_enter Try.func6, Try.ntmps6
      go_wp2_with fail
      refine (hknown_walk _).mono ?_
      rintro e w1 ⟨rfl, hb1⟩
      go_wp2_with fail
      refine (hc _ (ha.call hb1 hB) hb1.size).mono ?_
      rintro e w2 ⟨rfl, hb2⟩
      have bel2 := bel_call hb1 hb2
      go_wp2_with fail
      refine (hba _ (ha.call bel2 hB) bel2.size).mono ?_
      rintro e w3 ⟨rfl, hb3⟩
      have bel3 := bel_call bel2 hb3
      go_wp2_with fail
      refine (hbb _ (ha.call bel3 hB) bel3.size).mono ?_
      rintro e w4 ⟨rfl, hb4⟩
      have bel4 := bel_call bel3 hb4
      go_wp2_with fail
      refine (has _ (ha.call bel4 hB) bel4.size).mono ?_
      rintro e w5 ⟨rfl, hb5⟩
      go_wp2_with fail
      go_ret
      exact ⟨rfl, bel_alloc (bel_call bel4 hb5) _⟩
    · have e2 : (h.b == q) = false := by simpa using hq
      have e3 : (h.b == 0) = true := by simp; omega
      clear hX hY hnone hsome hA h0 k1 k2 hq
      go_enter Try.func6, Try.ntmps6
      go_wp2_with fail
      refine (hknown_walk _).mono ?_
      rintro e w1 ⟨rfl, hb1⟩
      go_wp2_with fail
      refine (hc _ (ha.call hb1 hB) hb1.size).mono ?_
      rintro e w2 ⟨rfl, hb2⟩
      have bel2 := bel_call hb1 hb2
      go_wp2_with fail
      refine (hba _ (ha.call bel2 hB) bel2.size).mono ?_
      rintro e w3 ⟨rfl, hb3⟩
      have bel3 := bel_call bel2 hb3
      go_wp2_with fail
      refine (hbb _ (ha.call bel3 hB) bel3.size).mono ?_
      rintro e w4 ⟨rfl, hb4⟩
      have bel4 := bel_call bel3 hb4
      go_wp2_with fail
      refine (has _ (ha.call bel4 hB) bel4.size).mono ?_
      rintro e w5 ⟨rfl, hb5⟩
      go_wp2_with fail
      go_ret
      exact ⟨rfl, bel_alloc (bel_call bel4 hb5) _⟩
end Go.Proofs.Ytfgpndmlellidaa
