/- The walk of 'octet.Get': which number bytes are, from a place on. -/
import Derived.Test.YtnhiipiciondoaaOctBits
import Derived.Test.YtnhiipiciondoaaMem
namespace Go.Proofs.Ytnhiipiciondoaa
open Go.RowKit

/-- A fault as a value. -/
def fv (e at_ : Int) : Value := .agg #[.int .i64 e, .int .i64 at_]
def gv (r : Int × Int × Int × Int) : Value := .tuple #[.int .i64 r.1, .int .i64 r.2.1, fv r.2.2.1 r.2.2.2]
set_option maxRecDepth 100000 in
set_option maxHeartbeats 400000 in
theorem fault_any (e at_ : Int) (w : World) :
    Calls Try.prog 44 #[.int .i64 e, .int .i64 at_] w fun r w' => r = .returned (fv e at_) ∧ Below w.heap.size w w' := by
  go_enter Try.func44, Try.ntmps44
  go_wp2_with fail
  exact bodyPost_ret (v := fv e at_) (by simp [results, Try.results44, go_sem, fv]) rfl ⟨rfl, ((Below.refl _ _).alloc (Nat.le_refl _) _)⟩
set_option maxRecDepth 100000 in
set_option maxHeartbeats 1600000 in
theorem get_any (A : Option Addr) (n c : Nat) (xs : List Int) (at_ : Int) (B : Nat) (w : World) (ha : Shows w B 1 A n (U8 xs)) (hn : n ≤ maxLen) (hB : B ≤ w.heap.size)
    (hc : n ≤ c) (hx : ∀ x ∈ xs, 0 ≤ x ∧ x ≤ 255) (h0 : -9223372036854775808 ≤ at_) (h1 : at_ ≤ 9223372036854775807) :
    Calls Try.prog 23 #[.slice A n c, .int .i64 at_] w fun e w' => e = .returned (gv (Oct.getB xs at_)) ∧ Below w.heap.size w w' := by
  have hl : xs.length = n := by have := ha.len; simpa [U8] using this
  unfold maxLen at hn
  by_cases hr : at_ < 0 ∨ (n : Int) < at_
  · have e : Oct.getB xs at_ = (0, 0, 5, 0) := by unfold Oct.getB; rw [if_pos (by omega)]
    rw [e]
    rcases hr with hr | hr
    · go_enter Try.func23, Try.ntmps23
      go_wp2
      exact bodyPost_ret (v := gv (0, 0, 5, 0)) (by simp [results, Try.results23, go_sem, gv, fv]) rfl ⟨rfl, by go_grown⟩
    · have h2 : ¬ at_ < 0 := by omega
      go_enter Try.func23, Try.ntmps23
      go_wp2
      exact bodyPost_ret (v := gv (0, 0, 5, 0)) (by simp [results, Try.results23, go_sem, gv, fv]) rfl ⟨rfl, by go_grown⟩
  · obtain ⟨k, rfl⟩ : ∃ k : Nat, at_ = k := ⟨at_.toNat, by omega⟩
    have hk : k ≤ n := by omega
    have e : Oct.getB xs k = Oct.getL (xs.drop k) 0 0 k xs.length := by unfold Oct.getB; rw [if_neg (by omega)]; simp
    rw [e]
    have Hl := Lib.hid hl; clear hl e hr
    obtain ⟨A2, hcut, hsh⟩ := cut_from (P := Try.prog) 1 Try.underlying23 size_u8 A n c k hk hc
    have ha2 := hsh _ _ _ ha
    clear hsh ha
    have d1 : decide ((k : Int) < 0) = false := by simp
    have d2 : decide (n < k) = false := by simp; omega
    go_enter Try.func23, Try.ntmps23
    go_wp2_with fail
    clear hcut
    go_loop [7, 23] (fun r i => ∃ j rank : Nat, j ≤ 9 ∧ rank < 128 ^ j ∧ i = .int .i64 j ∧ r = .int .u64 rank ∧ k + j ≤ n ∧ Oct.getL (xs.drop (k + j)) j rank k n = Oct.getL (xs.drop k) 0 0 k n)
      (fun _ i => n - (intOf i).toNat)
    case atStart => exact ⟨0, 0, by omega, by simp, rfl, rfl, by omega, by simp⟩
    case round =>
      obtain ⟨j, rank, hj, hrank, rfl, rfl, hjn, hres⟩ := hrel
      have Hres := Lib.hid hres; clear hres
      have Hrank := Lib.hid hrank; clear hrank
      by_cases hlt : k + j < n
      · obtain ⟨b, off, rfl, hb, hcell⟩ := ha2.at_ (by omega)
        have hcx := hcell j (by simp [U8, Hl.out]; omega)
        obtain ⟨x, hxe⟩ : ∃ x, xs[k + j]? = some x := ⟨xs[k + j]'(by rw [Hl.out]; exact hlt), List.getElem?_eq_getElem _⟩
        have hx1 := hx x (List.mem_of_getElem? hxe)
        have hcx : (w.alloc (Obj.cells #[Value.int IntKind.i64 0, Value.int IntKind.i64 0] 37)).cell? ⟨b, off + j, none⟩ = some (.int .u8 x) := by
          rw [World.cell?_alloc_lt _ _ _ (show b < w.heap.size by omega), hcx]
          simp [U8, hxe]
        have Hxe := Lib.hid hxe
        clear hxe hcell hx ha2
        by_cases t1 : j = 9 ∧ 1 < x
        · have Hr := Lib.hid ((Hres.out).symm.trans (Oct.getL_range Hxe.out t1))
          obtain ⟨t1a, t1b⟩ := t1
          subst t1a
          clear Hres Hrank
          go_wp2
          refine bodyPost_ret (v := gv (0, 0, 5, (k : Int) + (9 : Nat))) (by simp [results, Try.results23, go_sem, gv, fv]) rfl ⟨by rw [Hl.out, Hr.out], by go_grown⟩
        · by_cases t2 : 0 < j ∧ x = 0
          · have Hr := Lib.hid ((Hres.out).symm.trans (Oct.getL_zero Hxe.out t1 t2))
            obtain ⟨t2a, t2b⟩ := t2
            subst t2b
            clear Hres Hrank t1
            by_cases h9 : j = 9
            · subst h9
              go_wp2
              refine bodyPost_ret (v := gv (0, 0, 4, (k : Int) + (9 : Nat))) (by simp [results, Try.results23, go_sem, gv, fv]) rfl ⟨by rw [Hl.out, Hr.out], by go_grown⟩
            · go_wp2
              refine bodyPost_ret (v := gv (0, 0, 4, (k : Int) + j)) (by simp [results, Try.results23, go_sem, gv, fv]) rfl ⟨by rw [Hl.out, Hr.out], by go_grown⟩
          · have hr2 := Oct.get_or rank j x hj Hrank.out hx1.1 hx1.2 t1
            have hlt2 := Oct.get_small j (x % 128).toNat rank hj Hrank.out (by omega) (by omega)
            have hnx := Oct.rank_next (j := j) (rank := rank) (y := (x % 128).toNat) Hrank.out (by omega)
            have hzag := Oct.zag_bits _ hlt2
            by_cases t3 : x < 128
            · have Hr := Lib.hid ((Hres.out).symm.trans (Oct.getL_last Hxe.out t1 t2 t3))
              generalize hg : rank + (x % 128).toNat * 128 ^ j = r2 at *
              clear Hres Hrank hg hlt2 hnx
              by_cases h9 : j = 9
              · subst h9
                have t1b : ¬ 1 < x := by omega
                have t2b : (x == 0) = false := by simp; omega
                simp only [Nat.reduceMul, Int.reducePow] at hr2
                clear t1 t2
                go_wp2
                refine bodyPost_ret (v := gv (Oct.zag r2, (k : Int) + (9 : Nat) + 1, 0, 0)) (by simp [results, Try.results23, go_sem, gv, fv]) rfl ⟨by rw [Hl.out, Hr.out], by go_grown⟩
              · by_cases h00 : j = 0
                · subst h00
                  simp only [Nat.add_zero, Nat.mul_zero, Int.mul_one, Int.pow_zero] at hr2 hcx
                  clear t1 t2 h9
                  go_wp2
                  refine bodyPost_ret (v := gv (Oct.zag r2, (k : Int) + (0 : Nat) + 1, 0, 0)) (by simp [results, Try.results23, go_sem, gv, fv]) rfl ⟨by rw [Hl.out, Hr.out], by go_grown⟩
                · have t2b : (x == 0) = false := by simp; omega
                  clear t1 t2
                  go_wp2
                  refine bodyPost_ret (v := gv (Oct.zag r2, (k : Int) + j + 1, 0, 0)) (by simp [results, Try.results23, go_sem, gv, fv]) rfl ⟨by rw [Hl.out, Hr.out], by go_grown⟩
            · have Hr := Lib.hid ((Oct.getL_more Hxe.out t1 t2 t3).symm.trans Hres.out)
              generalize hg : rank + (x % 128).toNat * 128 ^ j = r2 at *
              have Hnx := Lib.hid hnx
              have h9 : ¬ j = 9 := by omega
              have t2b : (x == 0) = false := by simp; omega
              clear Hres Hrank hg hlt2 hnx hzag t1 t2
              by_cases h00 : j = 0
              · subst h00
                simp only [Nat.add_zero, Nat.mul_zero, Int.mul_one, Int.pow_zero] at hr2 hcx
                go_wp2
                go_round
                case rel => exact ⟨1, r2, by omega, by simpa using Hnx.out, rfl, rfl, by omega, Hr.out⟩
                case measure => simp [intOf]; omega
              · go_wp2
                go_round
                case rel => exact ⟨j + 1, r2, by omega, Hnx.out, by go_num, rfl, by omega, Hr.out⟩
                case measure => simp [intOf]; omega
      · have hk2 : k + j = n := by omega
        have Hr := Lib.hid ((Hres.out).symm.trans (Oct.getL_end (by rw [Hl.out]; omega)))
        go_wp2
        refine bodyPost_ret (v := gv (0, 0, 4, (n : Int))) (by simp [results, Try.results23, go_sem, gv, fv]) rfl ⟨by rw [Hl.out, Hr.out], by go_grown⟩
end Go.Proofs.Ytnhiipiciondoaa
