/- The walk of 'octet.GetList', its head. -/
import Derived.Test.YtnhiipiciondoaaOctGetL
namespace Go.Proofs.Ytnhiipiciondoaa
open Go.RowKit Go.Lib

theorem lv_of {r : List Int × Int × Int × Int} {w w' : World} {e : Ending} (A : Option Addr) (c : Nat) (h1 : e = .returned (.tuple #[.slice A r.1.length c, .int .i64 r.2.1, .agg #[.int .i64 r.2.2.1, .int .i64 r.2.2.2]]))
    (h2 : w'.ownsRow w.heap.size 3 1 (.slice A r.1.length c) r.1.length (I64 r.1)) (h3 : Below w.heap.size w w') : LV r w e w' := ⟨A, c, h1, h2, h3⟩
theorem getMany_err (xs : List Int) : ∀ (k : Nat) (at_ : Int) (acc : List Int), (getMany xs k at_ acc).2.2.1 ≠ 0 → (getMany xs k at_ acc).1 = [] ∧ (getMany xs k at_ acc).2.1 = 0 := by
  intro k
  induction k with
  | zero => intro at_ acc h; simp [getMany] at h
  | succ k ih =>
    intro at_ acc h
    rw [getMany] at h ⊢
    split
    · simp
    · rename_i h0
      rw [if_neg h0] at h
      exact ih _ _ h
set_option maxRecDepth 100000 in
set_option maxHeartbeats 1600000 in
theorem manyList_any (A : Option Addr) (len c : Nat) (xs : List Int) (at_ most : Int) (gb B : Nat) (w : World) (hbox : w.cell? ⟨gb, 0, none⟩ = some (.slice A len c)) (hgb : gb < w.heap.size) (ha : Shows w B 1 A len (U8 xs)) (hB : B ≤ w.heap.size)
    (hlen : len ≤ 70000) (hc : len ≤ c) (hx : ∀ x ∈ xs, 0 ≤ x ∧ x ≤ 255) (a0 : -9223372036854775808 ≤ at_) (a1 : at_ ≤ 9223372036854775807) :
    Calls Try.prog 48 #[.slice A len c, .int .i64 at_, .int .i64 most, .func (Fn.func 49) #[] #[.pointer (some ⟨gb, 0, none⟩)]] w (LV (getLs xs at_ most) w) := by
  have hl : xs.length = len := by have := ha.len; simpa [U8] using this
  by_cases hm : most < 0
  · rw [show getLs xs at_ most = ([], 0, 2, 0) by unfold getLs; rw [if_pos hm]]
    go_enter Try.func48, Try.ntmps48
    go_wp2
    exact bodyPost_ret (v := .tuple #[.slice none 0 0, .int .i64 0, .agg #[.int .i64 2, .int .i64 0]]) (by simp [results, Try.results48, go_sem]) rfl (lv_of none 0 rfl (World.ownsRow_nil _ _ _ _) (by go_grown))
  · obtain ⟨r0, r1, r2, r3, hr⟩ : ∃ r0 r1 r2 r3, Oct.getB xs at_ = (r0, r1, r2, r3) := ⟨_, _, _, _, rfl⟩
    have hnx := (Oct.getB_facts xs at_ hx).2
    simp only [hr] at hnx
    have Hr := Lib.hid hr
    have hg := fun w' (h : Shows w' B 1 A len (U8 xs)) (hB' : B ≤ w'.heap.size) => get_is (c := c) hr h (by unfold maxLen; omega) hB' hc hx a0 a1
    clear hr
    have hn0 : r0 ≤ 9223372036854775807 := by have := (Oct.getB_facts xs at_ hx).1.2; rw [Hr.out] at this; exact this
    by_cases t1 : r2 = 0
    · subst t1
      obtain ⟨nx, rfl⟩ : ∃ k : Nat, r1 = k := ⟨r1.toNat, by have := (hnx rfl).1; omega⟩
      have hnxl : nx ≤ len := by have := (hnx rfl).2; omega
      clear hnx
      by_cases t2 : r0 < 0
      · have e : getLs xs at_ most = ([], 0, 5, at_) := by unfold getLs; rw [if_neg hm, Hr.out]; simp [t2]
        rw [e]
        clear e
        go_enter Try.func48, Try.ntmps48
        go_wp2_with fail
        refine (hg _ (ha.alloc hB _) (by simp; omega)).mono ?_
        rintro e w1 ⟨rfl, hb1⟩
        obtain ⟨hblk, z1⟩ := new_block (cs := [.int .i64 0, .int .i64 0]) hb1
        have c0 := hblk.cell 0
        have c1 := hblk.cell 1
        have u0 := hblk.free 0
        have u1 := hblk.free 1
        simp only [List.getElem?_cons_zero, List.getElem?_cons_succ] at c0 c1
        go_wp2_with (go_at_call 44; go_in)
        exact ret_ttc (T := 37) rfl rfl rfl ((((hblk.set 0 (.int .i64 5)).set 1 (.int .i64 at_)).alloc _).alloc _) agg_fault size_fault
          (lv_of none 0 rfl (World.ownsRow_nil _ _ _ _) (bel_alloc (bel_alloc (bel_set (bel_set (bel_call (bel_alloc (Below.refl _ _) _) hb1) (Nat.le_refl _) _) (Nat.le_refl _) _) _) _))
      · by_cases t3 : most < r0
        · have e : getLs xs at_ most = ([], 0, 3, at_) := by unfold getLs; rw [if_neg hm, Hr.out]; simp [t2, t3]
          rw [e]
          clear e
          go_enter Try.func48, Try.ntmps48
          go_wp2_with fail
          refine (hg _ (ha.alloc hB _) (by simp; omega)).mono ?_
          rintro e w1 ⟨rfl, hb1⟩
          obtain ⟨hblk, z1⟩ := new_block (cs := [.int .i64 0, .int .i64 0]) hb1
          have c0 := hblk.cell 0
          have c1 := hblk.cell 1
          have u0 := hblk.free 0
          have u1 := hblk.free 1
          simp only [List.getElem?_cons_zero, List.getElem?_cons_succ] at c0 c1
          go_wp2_with (go_at_call 44; go_in)
          exact ret_ttc (T := 37) rfl rfl rfl ((((hblk.set 0 (.int .i64 3)).set 1 (.int .i64 at_)).alloc _).alloc _) agg_fault size_fault
            (lv_of none 0 rfl (World.ownsRow_nil _ _ _ _) (bel_alloc (bel_alloc (bel_set (bel_set (bel_call (bel_alloc (Below.refl _ _) _) hb1) (Nat.le_refl _) _) (Nat.le_refl _) _) _) _))
        · obtain ⟨n, rfl⟩ : ∃ k : Nat, r0 = k := ⟨r0.toNat, by omega⟩
          obtain ⟨s, q1, q2, q3, hq⟩ : ∃ s q1 q2 q3, getMany xs n nx [] = (s, q1, q2, q3) := ⟨_, _, _, _, rfl⟩
          have e : getLs xs at_ most = (s, q1, q2, q3) := by unfold getLs; rw [if_neg hm, Hr.out]; simp only [ne_eq, not_true_eq_false, if_false, if_neg t2, if_neg t3, Int.toNat_natCast, hq]
          rw [e]
          have htl := fun w' hbox hgb' (h : Shows w' B 1 A len (U8 xs)) (hB' : B ≤ w'.heap.size) => listTail_any A len c xs n nx gb B w' hbox hgb' h hB' hlen hc (by omega) hnxl hx
          rw [hq] at htl
          have hzero : q2 ≠ 0 → s = [] ∧ q1 = 0 := by
            intro h
            have := getMany_err xs n nx [] (by rw [hq]; exact h)
            rw [hq] at this
            exact this
          clear e hq t2
          have t5 : q2 = 0 ∨ ((q2 == 0) = false ∧ (q2 != 0) = true) := by
            by_cases h : q2 = 0
            · exact .inl h
            · exact .inr ⟨by simpa using h, by simpa using h⟩
          rcases t5 with rfl | ⟨t5, t6⟩
          · go_enter Try.func48, Try.ntmps48
            go_wp2_with fail
            refine (hg _ (ha.alloc hB _) (by simp; omega)).mono ?_
            rintro e w1 ⟨rfl, hb1⟩
            obtain ⟨hblk, z1⟩ := new_block (cs := [.int .i64 0, .int .i64 0]) hb1
            have c0 := hblk.cell 0
            have c1 := hblk.cell 1
            have u0 := hblk.free 0
            have u1 := hblk.free 1
            simp only [List.getElem?_cons_zero, List.getElem?_cons_succ] at c0 c1
            go_wp2_with fail
            refine (htl _ ?_ ?_ ?_ ?_).mono ?_
            · rw [World.cell?_alloc_lt _ _ _ (show gb < w1.heap.size by omega), hb1.cell (p := ⟨gb, 0, none⟩) (by simp; omega), World.cell?_alloc_lt _ _ _ hgb]
              exact hbox
            · simp; omega
            · exact ((ha.alloc hB _).call hb1 (by simp; omega)).alloc (by omega) _
            · simp; omega
            rintro e w2 ⟨A2, c2, rfl, ho2, hb2⟩
            have hne : w.heap.size ≠ w1.heap.size := by omega
            have hblk2 := (hblk.alloc _).call hb2
            obtain ⟨hblk3, z2⟩ := new_block (cs := [.int .i64 0, .int .i64 r3]) hb2
            have d0 := hblk2.cell 0
            have d1 := hblk2.cell 1
            have v0 := hblk2.free 0
            have v1 := hblk2.free 1
            have d2 := hblk3.cell 0
            have d3 := hblk3.cell 1
            have v2 := hblk3.free 0
            have v3 := hblk3.free 1
            simp only [List.getElem?_cons_zero, List.getElem?_cons_succ] at d0 d1 d2 d3
            clear c0 c1 u0 u1
            go_wp2_with fail
            go_region
            go_wp2_with fail
            rw [World.size_alloc] at ho2
            have ho3 := own_base (base' := w.heap.size) (ownsRow_setCell_below (ownsRow_setCell_below (ownsRow_setCell_below (ownsRow_setCell_below ho2 (a := ⟨w1.heap.size, 0, none⟩) (by simp) (.int .i64 0)) (a := ⟨w1.heap.size, 1, none⟩) (by simp) (.int .i64 q3))
              (a := ⟨w.heap.size, 0, none⟩) (by simp; omega) (.int .i64 0)) (a := ⟨w.heap.size, 1, none⟩) (by simp; omega) (.int .i64 q3)) (by omega)
            exact ret_ttc (T := 37) rfl rfl rfl ((((hblk2.far hne _).far hne _).set 0 (.int .i64 0)).set 1 (.int .i64 q3)).drew agg_fault size_fault
              (lv_of A2 c2 rfl ho3 ((bel_set (bel_set (bel_set (bel_set (bel_call (bel_alloc (bel_call (bel_alloc (Below.refl _ _) _) hb1) _) hb2) (Nat.le_of_lt z1) _) (Nat.le_of_lt z1) _) (Nat.le_refl _) _) (Nat.le_refl _) _).drew))
          · obtain ⟨rfl, rfl⟩ := hzero (by simpa using t5)
            go_enter Try.func48, Try.ntmps48
            go_wp2_with fail
            refine (hg _ (ha.alloc hB _) (by simp; omega)).mono ?_
            rintro e w1 ⟨rfl, hb1⟩
            obtain ⟨hblk, z1⟩ := new_block (cs := [.int .i64 0, .int .i64 0]) hb1
            have c0 := hblk.cell 0
            have c1 := hblk.cell 1
            have u0 := hblk.free 0
            have u1 := hblk.free 1
            simp only [List.getElem?_cons_zero, List.getElem?_cons_succ] at c0 c1
            go_wp2_with fail
            refine (htl _ ?_ ?_ ?_ ?_).mono ?_
            · rw [World.cell?_alloc_lt _ _ _ (show gb < w1.heap.size by omega), hb1.cell (p := ⟨gb, 0, none⟩) (by simp; omega), World.cell?_alloc_lt _ _ _ hgb]
              exact hbox
            · simp; omega
            · exact ((ha.alloc hB _).call hb1 (by simp; omega)).alloc (by omega) _
            · simp; omega
            rintro e w2 ⟨A2, c2, rfl, ho2, hb2⟩
            have hne : w.heap.size ≠ w1.heap.size := by omega
            have hblk2 := (hblk.alloc _).call hb2
            obtain ⟨hblk3, z2⟩ := new_block (cs := [.int .i64 0, .int .i64 r3]) hb2
            have d0 := hblk2.cell 0
            have d1 := hblk2.cell 1
            have v0 := hblk2.free 0
            have v1 := hblk2.free 1
            have d2 := hblk3.cell 0
            have d3 := hblk3.cell 1
            have v2 := hblk3.free 0
            have v3 := hblk3.free 1
            simp only [List.getElem?_cons_zero, List.getElem?_cons_succ] at d0 d1 d2 d3
            clear c0 c1 u0 u1
            go_wp2_with fail
            go_region
            go_wp2_with fail
            exact ret_ttc (T := 37) rfl rfl rfl ((((hblk2.far hne _).far hne _).set 0 (.int .i64 q2)).set 1 (.int .i64 q3)).drew agg_fault size_fault
              (lv_of none 0 rfl (World.ownsRow_nil _ _ _ _) ((bel_set (bel_set (bel_set (bel_set (bel_call (bel_alloc (bel_call (bel_alloc (Below.refl _ _) _) hb1) _) hb2) (Nat.le_of_lt z1) _) (Nat.le_of_lt z1) _) (Nat.le_refl _) _) (Nat.le_refl _) _).drew))
    · have e : getLs xs at_ most = ([], 0, r2, r3) := by unfold getLs; rw [if_neg hm, Hr.out]; simp [t1]
      have t1b : (r2 == 0) = false := by simpa using t1
      have t1c : (r2 != 0) = true := by simpa using t1
      rw [e]
      clear e hnx
      go_enter Try.func48, Try.ntmps48
      go_wp2_with fail
      refine (hg _ (ha.alloc hB _) (by simp; omega)).mono ?_
      rintro e w1 ⟨rfl, hb1⟩
      obtain ⟨hblk, z1⟩ := new_block (cs := [.int .i64 0, .int .i64 0]) hb1
      have c0 := hblk.cell 0
      have c1 := hblk.cell 1
      have u0 := hblk.free 0
      have u1 := hblk.free 1
      simp only [List.getElem?_cons_zero, List.getElem?_cons_succ] at c0 c1
      go_wp2_with fail
      go_region
      go_wp2_with fail
      exact ret_ttc (T := 37) rfl rfl rfl (((hblk.set 0 (.int .i64 r2)).set 1 (.int .i64 r3)).alloc _).drew agg_fault size_fault
        (lv_of none 0 rfl (World.ownsRow_nil _ _ _ _) ((bel_alloc (bel_set (bel_set (bel_call (bel_alloc (Below.refl _ _) _) hb1) (Nat.le_refl _) _) (Nat.le_refl _) _) _).drew))
set_option maxRecDepth 100000 in
set_option maxHeartbeats 1600000 in
theorem getList_any (A : Option Addr) (len c : Nat) (xs : List Int) (at_ most : Int) (B : Nat) (w : World) (ha : Shows w B 1 A len (U8 xs)) (hB : B ≤ w.heap.size)
    (hlen : len ≤ 70000) (hc : len ≤ c) (hx : ∀ x ∈ xs, 0 ≤ x ∧ x ≤ 255) (a0 : -9223372036854775808 ≤ at_) (a1 : at_ ≤ 9223372036854775807) :
    Calls Try.prog 27 #[.slice A len c, .int .i64 at_, .int .i64 most] w (LV (getLs xs at_ most) w) := by
  obtain ⟨s, q1, q2, q3, hq⟩ : ∃ s q1 q2 q3, getLs xs at_ most = (s, q1, q2, q3) := ⟨_, _, _, _, rfl⟩
  have hm := fun gb w' hbox hgb (h : Shows w' B 1 A len (U8 xs)) (hB' : B ≤ w'.heap.size) => manyList_any A len c xs at_ most gb B w' hbox hgb h hB' hlen hc hx a0 a1
  rw [hq] at hm ⊢
  clear hq
  go_enter Try.func27, Try.ntmps27
  go_wp2_with fail
  refine (hm w.heap.size _ ?_ ?_ ?_ ?_).mono ?_
  · rw [World.cell?_alloc_lt _ _ _ (by simp), World.cell?_alloc_new]; rfl
  · simp; omega
  · exact (ha.alloc hB _).alloc (by simp; omega) _
  · simp; omega
  rintro e w1 ⟨A2, c2, rfl, ho, hb1⟩
  obtain ⟨hblk, z1⟩ := new_block (cs := [.int .i64 0, .int .i64 0]) hb1
  rw [World.size_alloc] at hblk
  have d0 := hblk.cell 0
  have d1 := hblk.cell 1
  have v0 := hblk.free 0
  have v1 := hblk.free 1
  simp only [List.getElem?_cons_zero, List.getElem?_cons_succ, World.size_alloc] at d0 d1 z1
  go_wp2_with fail
  simp only [World.size_alloc] at ho
  have ho3 := own_base (base' := w.heap.size) (ownsRow_setCell_below (ownsRow_setCell_below ho (a := ⟨w.heap.size + 1, 0, none⟩) (by simp) (.int .i64 q2)) (a := ⟨w.heap.size + 1, 1, none⟩) (by simp) (.int .i64 q3)) (by omega)
  exact ret_ttc (T := 37) rfl rfl rfl ((hblk.set 0 (.int .i64 q2)).set 1 (.int .i64 q3)) agg_fault size_fault
    (lv_of A2 c2 rfl ho3 (bel_set (bel_set (bel_call (bel_alloc (bel_alloc (Below.refl _ _) _) _) hb1) (Nat.le_succ _) _) (Nat.le_succ _) _))
end Go.Proofs.Ytnhiipiciondoaa
