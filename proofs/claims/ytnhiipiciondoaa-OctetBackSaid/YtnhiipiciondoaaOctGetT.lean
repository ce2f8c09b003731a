/- The walk of 'octet.GetText'. -/
import Derived.Test.YtnhiipiciondoaaOctAwake
import Derived.Test.YtnhiipiciondoaaOctPlain2
import Derived.Test.YtnhiipiciondoaaMem2
namespace Go.Proofs.Ytnhiipiciondoaa
open Go.RowKit Go.Lib

theorem agg_fault (w : World) : (isAgg 37).run Try.prog w = .ok true w := by kernel_rfl
theorem size_fault (w : World) : (sizeOf 37).run Try.prog w = .ok 2 w := by kernel_rfl
/-- A text's answer as a value. -/
def tv (s : List Int) (nx e p : Int) : Value := .tuple #[.string (strOfNums s), .int .i64 nx, fv e p]
/-- What the text's part behind its length answers. -/
def tail_ (xs : List Int) (n at_ : Nat) : List Int × Int × Int × Int := if xs.length - at_ < n then ([], 0, 4, xs.length) else ((xs.drop at_).take n, ((at_ + n : Nat) : Int), 0, 0)
def getT (xs : List Int) (at_ most : Int) : List Int × Int × Int × Int :=
  if most < 0 then ([], 0, 2, 0) else
  let r := Oct.getB xs at_
  if r.2.2.1 ≠ 0 then ([], 0, r.2.2.1, r.2.2.2) else if r.1 < 0 then ([], 0, 5, at_) else if most < r.1 then ([], 0, 3, at_) else tail_ xs r.1.toNat r.2.1.toNat
/-- 'x[l:h]'. -/
theorem cut_mid {P : Program} {T E : TypeId} (size : Nat) (hT : P.underlying T = some (.slice E)) (hS : ∀ w, (sizeOf E).run P w = .ok size w) (A : Option Addr) (n c l k : Nat) (hk : l + k ≤ n) (hc : n ≤ c) :
    ∃ A2, (∀ w, (Instr.slice T (.slice A n c) (some (.int .i64 (l : Int))) (some (.int .i64 ((l : Int) + (k : Int)))) none).run P w = .ok (.slice A2 k (c - l)) w) ∧
      ∀ w B xs, Shows w B size A n xs → Shows w B size A2 k ((xs.drop (l * size)).take (k * size)) := by
  have he : P.elem T = E := by simp [Program.elem, hT]
  obtain ⟨A2, hrun, hsh⟩ := cut_from size hT hS A n c l (by omega) hc
  refine ⟨if c = l then A else A.map (·.add (l * size)), fun w => ?_, fun w B xs h => ?_⟩
  · rw [run_slice_lh w T A n c (by rw [he]; exact hT) .i64 .i64 l ((l : Int) + (k : Int)) (by omega) (by omega) (by omega), he, hS]
    simp [sliced, Result.andThen]
    omega
  · have h1 : Shows w B size (if c = l then A else A.map (·.add (l * size))) (n - l) (xs.drop (l * size)) := by
      refine ⟨by rw [List.length_drop, h.1, Nat.sub_mul], fun hn => ?_⟩
      obtain ⟨b, off, rfl, hb, hcell⟩ := h.2 (by omega)
      rw [if_neg (by omega)]
      refine ⟨b, off + l * size, by simp [Addr.add], hb, fun j hj => ?_⟩
      rw [List.length_drop] at hj
      rw [Nat.add_assoc, hcell _ (by omega)]
      simp [List.getD]
    exact h1.take (by omega)
set_option maxRecDepth 100000 in
set_option maxHeartbeats 800000 in
theorem textTail_any (A : Option Addr) (len c : Nat) (xs : List Int) (n at_ gb B : Nat) (w : World) (hbox : w.cell? ⟨gb, 0, none⟩ = some (.slice A len c)) (hgb : gb < w.heap.size) (ha : Shows w B 1 A len (U8 xs)) (hB : B ≤ w.heap.size)
    (hlen : len ≤ 70000) (hc : len ≤ c) (hn : n ≤ 9223372036854775807) (hat : at_ ≤ len) :
    Calls Try.prog 46 #[.int .i64 n, .int .i64 at_, .pointer (some ⟨gb, 0, none⟩)] w fun e w' =>
      e = .returned (tv (tail_ xs n at_).1 (tail_ xs n at_).2.1 (tail_ xs n at_).2.2.1 (tail_ xs n at_).2.2.2) ∧ Below w.heap.size w w' := by
  have hl : xs.length = len := by have := ha.len; simpa [U8] using this
  by_cases h : xs.length - at_ < n
  · have e : tail_ xs n at_ = (([], 0, 4, (xs.length : Int)) : List Int × Int × Int × Int) := by unfold tail_; rw [if_pos h]
    rw [e, hl]
    rw [hl] at h
    clear e hl
    have h2 : (len : Int) - at_ < n := by omega
    have hk := World.cell?_alloc_lt w (.cells #[.int .i64 0, .int .i64 0] 37) ⟨gb, 0, none⟩ hgb
    go_enter Try.func46, Try.ntmps46
    go_wp2
    exact bodyPost_ret (v := tv [] 0 4 len) (by simp [results, Try.results46, go_sem, tv, fv, strOfNums]) rfl ⟨rfl, by go_grown⟩
  · have e : tail_ xs n at_ = ((xs.drop at_).take n, ((at_ + n : Nat) : Int), 0, 0) := by unfold tail_; rw [if_neg h]
    rw [e]
    rw [hl] at h
    obtain ⟨A2, hcut, hsh⟩ := cut_mid (P := Try.prog) 1 Try.underlying23 size_u8 A len c at_ n (by omega) hc
    have s2 := (hsh _ _ _ ha).alloc hB (.cells #[.int .i64 0, .int .i64 0] 37)
    rw [show ((U8 xs).drop (at_ * 1)).take (n * 1) = U8 ((xs.drop at_).take n) by simp [U8]] at s2
    have hconv := conv_shows (c - at_) s2
    clear s2 hsh e hl
    have h2 : ¬ (len : Int) - at_ < n := by omega
    go_enter Try.func46, Try.ntmps46
    go_wp2
    exact bodyPost_ret (v := tv ((xs.drop at_).take n) ((at_ + n : Nat) : Int) 0 0) (by simp [results, Try.results46, go_sem, tv, fv]) rfl ⟨rfl, by go_grown⟩
set_option maxRecDepth 100000 in
set_option maxHeartbeats 1600000 in
theorem manyText_any (A : Option Addr) (len c : Nat) (xs : List Int) (at_ most : Int) (gb B : Nat) (w : World) (hbox : w.cell? ⟨gb, 0, none⟩ = some (.slice A len c)) (hgb : gb < w.heap.size) (ha : Shows w B 1 A len (U8 xs)) (hB : B ≤ w.heap.size)
    (hlen : len ≤ 70000) (hc : len ≤ c) (hx : ∀ x ∈ xs, 0 ≤ x ∧ x ≤ 255) (a0 : -9223372036854775808 ≤ at_) (a1 : at_ ≤ 9223372036854775807) :
    Calls Try.prog 45 #[.slice A len c, .int .i64 at_, .int .i64 most, .func (Fn.func 46) #[] #[.pointer (some ⟨gb, 0, none⟩)]] w fun e w' =>
      e = .returned (tv (getT xs at_ most).1 (getT xs at_ most).2.1 (getT xs at_ most).2.2.1 (getT xs at_ most).2.2.2) ∧ Below w.heap.size w w' := by
  have hl : xs.length = len := by have := ha.len; simpa [U8] using this
  by_cases hm : most < 0
  · rw [show getT xs at_ most = ([], 0, 2, 0) by unfold getT; rw [if_pos hm]]
    go_enter Try.func45, Try.ntmps45
    go_wp2
    exact bodyPost_ret (v := tv [] 0 2 0) (by simp [results, Try.results45, go_sem, tv, fv, strOfNums]) rfl ⟨rfl, by go_grown⟩
  · obtain ⟨r0, r1, r2, r3, hr⟩ : ∃ r0 r1 r2 r3, Oct.getB xs at_ = (r0, r1, r2, r3) := ⟨_, _, _, _, rfl⟩
    have hnx := (Oct.getB_facts xs at_ hx).2
    simp only [hr] at hnx
    have Hr := Lib.hid hr
    have hg := fun w' (h : Shows w' B 1 A len (U8 xs)) (hB' : B ≤ w'.heap.size) => get_is (c := c) hr h (by unfold maxLen; omega) hB' hc hx a0 a1
    clear hr
    have hn0 : r0 ≤ 9223372036854775807 := by have := (Oct.getB_facts xs at_ hx).1.2; rw [Hr.out] at this; exact this
    by_cases t1 : r2 = 0
    · subst t1
      obtain ⟨nx, rfl⟩ : ∃ k : Nat, r1 = k := ⟨r1.toNat, by have := (hnx rfl).1; omega⟩
      have hnxl : nx ≤ len := by have := (hnx rfl).2; omega
      clear hnx
      by_cases t2 : r0 < 0
      · have e : getT xs at_ most = ([], 0, 5, at_) := by unfold getT; rw [if_neg hm, Hr.out]; simp [t2]
        rw [e]
        clear e
        go_enter Try.func45, Try.ntmps45
        go_wp2_with fail
        refine (hg _ (ha.alloc hB _) (by simp; omega)).mono ?_
        rintro e w1 ⟨rfl, hb1⟩
        obtain ⟨hblk, z1⟩ := new_block (cs := [.int .i64 0, .int .i64 0]) hb1
        have c0 := hblk.cell 0
        have c1 := hblk.cell 1
        have u0 := hblk.free 0
        have u1 := hblk.free 1
        simp only [List.getElem?_cons_zero, List.getElem?_cons_succ] at c0 c1
        go_wp2_with (go_at_call 44; go_in)
        exact ret_ttc (T := 37) rfl rfl rfl ((((hblk.set 0 (.int .i64 5)).set 1 (.int .i64 at_)).alloc _).alloc _) agg_fault size_fault
          ⟨rfl, bel_alloc (bel_alloc (bel_set (bel_set (bel_call (bel_alloc (Below.refl _ _) _) hb1) (Nat.le_refl _) _) (Nat.le_refl _) _) _) _⟩
      · by_cases t3 : most < r0
        · have e : getT xs at_ most = ([], 0, 3, at_) := by unfold getT; rw [if_neg hm, Hr.out]; simp [t2, t3]
          rw [e]
          clear e
          go_enter Try.func45, Try.ntmps45
          go_wp2_with fail
          refine (hg _ (ha.alloc hB _) (by simp; omega)).mono ?_
          rintro e w1 ⟨rfl, hb1⟩
          obtain ⟨hblk, z1⟩ := new_block (cs := [.int .i64 0, .int .i64 0]) hb1
          have c0 := hblk.cell 0
          have c1 := hblk.cell 1
          have u0 := hblk.free 0
          have u1 := hblk.free 1
          simp only [List.getElem?_cons_zero, List.getElem?_cons_succ] at c0 c1
          go_wp2_with (go_at_call 44; go_in)
          exact ret_ttc (T := 37) rfl rfl rfl ((((hblk.set 0 (.int .i64 3)).set 1 (.int .i64 at_)).alloc _).alloc _) agg_fault size_fault
            ⟨rfl, bel_alloc (bel_alloc (bel_set (bel_set (bel_call (bel_alloc (Below.refl _ _) _) hb1) (Nat.le_refl _) _) (Nat.le_refl _) _) _) _⟩
        · obtain ⟨n, rfl⟩ : ∃ k : Nat, r0 = k := ⟨r0.toNat, by omega⟩
          obtain ⟨s, q1, q2, q3, hq⟩ : ∃ s q1 q2 q3, tail_ xs n nx = (s, q1, q2, q3) := ⟨_, _, _, _, rfl⟩
          have e : getT xs at_ most = (s, q1, q2, q3) := by unfold getT; rw [if_neg hm, Hr.out]; simp only [ne_eq, not_true_eq_false, if_false, if_neg t2, if_neg t3, Int.toNat_natCast, hq]
          rw [e]
          have htl := fun w' hbox hgb' (h : Shows w' B 1 A len (U8 xs)) (hB' : B ≤ w'.heap.size) => textTail_any A len c xs n nx gb B w' hbox hgb' h hB' hlen hc (by omega) hnxl
          rw [hq] at htl
          simp only [tv, fv] at htl
          have hzero : q2 ≠ 0 → s = [] ∧ q1 = 0 := by
            intro h
            unfold tail_ at hq
            split at hq <;> simp only [Prod.mk.injEq] at hq
            · exact ⟨hq.1.symm, hq.2.1.symm⟩
            · exact absurd hq.2.2.1.symm h
          clear e hq t2
          have t5 : q2 = 0 ∨ ((q2 == 0) = false ∧ (q2 != 0) = true) := by
            by_cases h : q2 = 0
            · exact .inl h
            · exact .inr ⟨by simpa using h, by simpa using h⟩
          rcases t5 with rfl | ⟨t5, t6⟩
          · go_enter Try.func45, Try.ntmps45
            go_wp2_with fail
            refine (hg _ (ha.alloc hB _) (by simp; omega)).mono ?_
            rintro e w1 ⟨rfl, hb1⟩
            obtain ⟨hblk, z1⟩ := new_block (cs := [.int .i64 0, .int .i64 0]) hb1
            have c0 := hblk.cell 0
            have c1 := hblk.cell 1
            have u0 := hblk.free 0
            have u1 := hblk.free 1
            simp only [List.getElem?_cons_zero, List.getElem?_cons_succ] at c0 c1
            go_wp2_with fail
            refine (htl _ ?_ ?_ ?_ ?_).mono ?_
            · rw [World.cell?_alloc_lt _ _ _ (show gb < w1.heap.size by omega), hb1.cell (p := ⟨gb, 0, none⟩) (by simp; omega), World.cell?_alloc_lt _ _ _ hgb]
              exact hbox
            · simp; omega
            · exact ((ha.alloc hB _).call hb1 (by simp; omega)).alloc (by omega) _
            · simp; omega
            rintro e w2 ⟨rfl, hb2⟩
            have hne : w.heap.size ≠ w1.heap.size := by omega
            have hblk2 := (hblk.alloc _).call hb2
            obtain ⟨hblk3, z2⟩ := new_block (cs := [.int .i64 0, .int .i64 r3]) hb2
            have d0 := hblk2.cell 0
            have d1 := hblk2.cell 1
            have v0 := hblk2.free 0
            have v1 := hblk2.free 1
            have d2 := hblk3.cell 0
            have d3 := hblk3.cell 1
            have v2 := hblk3.free 0
            have v3 := hblk3.free 1
            simp only [List.getElem?_cons_zero, List.getElem?_cons_succ] at d0 d1 d2 d3
            clear c0 c1 u0 u1
            go_wp2_with fail
            go_region
            go_wp2_with fail
            exact ret_ttc (T := 37) rfl rfl rfl ((((hblk2.far hne _).far hne _).set 0 (.int .i64 0)).set 1 (.int .i64 q3)).drew agg_fault size_fault
              ⟨rfl, (bel_set (bel_set (bel_set (bel_set (bel_call (bel_alloc (bel_call (bel_alloc (Below.refl _ _) _) hb1) _) hb2) (Nat.le_of_lt z1) _) (Nat.le_of_lt z1) _) (Nat.le_refl _) _) (Nat.le_refl _) _).drew⟩
          · obtain ⟨rfl, rfl⟩ := hzero (by simpa using t5)
            go_enter Try.func45, Try.ntmps45
            go_wp2_with fail
            refine (hg _ (ha.alloc hB _) (by simp; omega)).mono ?_
            rintro e w1 ⟨rfl, hb1⟩
            obtain ⟨hblk, z1⟩ := new_block (cs := [.int .i64 0, .int .i64 0]) hb1
            have c0 := hblk.cell 0
            have c1 := hblk.cell 1
            have u0 := hblk.free 0
            have u1 := hblk.free 1
            simp only [List.getElem?_cons_zero, List.getElem?_cons_succ] at c0 c1
            go_wp2_with fail
            refine (htl _ ?_ ?_ ?_ ?_).mono ?_
            · rw [World.cell?_alloc_lt _ _ _ (show gb < w1.heap.size by omega), hb1.cell (p := ⟨gb, 0, none⟩) (by simp; omega), World.cell?_alloc_lt _ _ _ hgb]
              exact hbox
            · simp; omega
            · exact ((ha.alloc hB _).call hb1 (by simp; omega)).alloc (by omega) _
            · simp; omega
            rintro e w2 ⟨rfl, hb2⟩
            have hne : w.heap.size ≠ w1.heap.size := by omega
            have hblk2 := (hblk.alloc _).call hb2
            obtain ⟨hblk3, z2⟩ := new_block (cs := [.int .i64 0, .int .i64 r3]) hb2
            have d0 := hblk2.cell 0
            have d1 := hblk2.cell 1
            have v0 := hblk2.free 0
            have v1 := hblk2.free 1
            have d2 := hblk3.cell 0
            have d3 := hblk3.cell 1
            have v2 := hblk3.free 0
            have v3 := hblk3.free 1
            simp only [List.getElem?_cons_zero, List.getElem?_cons_succ] at d0 d1 d2 d3
            clear c0 c1 u0 u1
            go_wp2_with fail
            go_region
            go_wp2_with fail
            exact ret_ttc (T := 37) rfl rfl rfl ((((hblk2.far hne _).far hne _).set 0 (.int .i64 q2)).set 1 (.int .i64 q3)).drew agg_fault size_fault
              ⟨rfl, (bel_set (bel_set (bel_set (bel_set (bel_call (bel_alloc (bel_call (bel_alloc (Below.refl _ _) _) hb1) _) hb2) (Nat.le_of_lt z1) _) (Nat.le_of_lt z1) _) (Nat.le_refl _) _) (Nat.le_refl _) _).drew⟩
    · have e : getT xs at_ most = ([], 0, r2, r3) := by unfold getT; rw [if_neg hm, Hr.out]; simp [t1]
      have t1b : (r2 == 0) = false := by simpa using t1
      have t1c : (r2 != 0) = true := by simpa using t1
      rw [e]
      clear e hnx
      go_enter Try.func45, Try.ntmps45
      go_wp2_with fail
      refine (hg _ (ha.alloc hB _) (by simp; omega)).mono ?_
      rintro e w1 ⟨rfl, hb1⟩
      obtain ⟨hblk, z1⟩ := new_block (cs := [.int .i64 0, .int .i64 0]) hb1
      have c0 := hblk.cell 0
      have c1 := hblk.cell 1
      have u0 := hblk.free 0
      have u1 := hblk.free 1
      simp only [List.getElem?_cons_zero, List.getElem?_cons_succ] at c0 c1
      go_wp2_with fail
      go_region
      go_wp2_with fail
      exact ret_ttc (T := 37) rfl rfl rfl (((hblk.set 0 (.int .i64 r2)).set 1 (.int .i64 r3)).alloc _).drew agg_fault size_fault
        ⟨rfl, (bel_alloc (bel_set (bel_set (bel_call (bel_alloc (Below.refl _ _) _) hb1) (Nat.le_refl _) _) (Nat.le_refl _) _) _).drew⟩
set_option maxRecDepth 100000 in
set_option maxHeartbeats 1600000 in
theorem getText_any (A : Option Addr) (len c : Nat) (xs : List Int) (at_ most : Int) (B : Nat) (w : World) (ha : Shows w B 1 A len (U8 xs)) (hB : B ≤ w.heap.size)
    (hlen : len ≤ 70000) (hc : len ≤ c) (hx : ∀ x ∈ xs, 0 ≤ x ∧ x ≤ 255) (a0 : -9223372036854775808 ≤ at_) (a1 : at_ ≤ 9223372036854775807) :
    Calls Try.prog 25 #[.slice A len c, .int .i64 at_, .int .i64 most] w fun e w' =>
      e = .returned (tv (getT xs at_ most).1 (getT xs at_ most).2.1 (getT xs at_ most).2.2.1 (getT xs at_ most).2.2.2) ∧ Below w.heap.size w w' := by
  obtain ⟨s, q1, q2, q3, hq⟩ : ∃ s q1 q2 q3, getT xs at_ most = (s, q1, q2, q3) := ⟨_, _, _, _, rfl⟩
  have hm := fun gb w' hbox hgb (h : Shows w' B 1 A len (U8 xs)) (hB' : B ≤ w'.heap.size) => manyText_any A len c xs at_ most gb B w' hbox hgb h hB' hlen hc hx a0 a1
  rw [hq] at hm ⊢
  simp only [tv, fv] at hm
  clear hq
  go_enter Try.func25, Try.ntmps25
  go_wp2_with fail
  refine (hm w.heap.size _ ?_ ?_ ?_ ?_).mono ?_
  · rw [World.cell?_alloc_lt _ _ _ (by simp), World.cell?_alloc_new]; rfl
  · simp; omega
  · exact (ha.alloc hB _).alloc (by simp; omega) _
  · simp; omega
  rintro e w1 ⟨rfl, hb1⟩
  obtain ⟨hblk, z1⟩ := new_block (cs := [.int .i64 0, .int .i64 0]) hb1
  rw [World.size_alloc] at hblk
  have d0 := hblk.cell 0
  have d1 := hblk.cell 1
  have v0 := hblk.free 0
  have v1 := hblk.free 1
  simp only [List.getElem?_cons_zero, List.getElem?_cons_succ, World.size_alloc] at d0 d1 z1
  go_wp2_with fail
  exact ret_ttc (T := 37) rfl rfl rfl ((hblk.set 0 (.int .i64 q2)).set 1 (.int .i64 q3)) agg_fault size_fault
    ⟨rfl, bel_set (bel_set (bel_call (bel_alloc (bel_alloc (Below.refl _ _) _) _) hb1) (Nat.le_succ _) _) (Nat.le_succ _) _⟩
end Go.Proofs.Ytnhiipiciondoaa
