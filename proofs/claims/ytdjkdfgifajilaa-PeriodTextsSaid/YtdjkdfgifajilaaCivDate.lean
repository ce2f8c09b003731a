/- The walk of 'civil.Date'. -/
import Derived.Test.YtdjkdfgifajilaaCivDay
namespace Go.Proofs.Ytdjkdfgifajilaa
open Go.RowKit

section
variable {P : Program} {fn : Func} {R : Ending → World → Prop} {a : Act} {w : World} {T t : TypeId} {b : Nat} {cs : List Value}
theorem ret_ct {x p : Tmp} (hr : fn.results = #[.cell p T, .tmp x]) (hd : a.defers = []) (hp : a.tmps.getD p undef = .pointer (some ⟨b, 0, none⟩)) (hb : Block w b t cs) (ha : ∀ w, (isAgg T).run P w = .ok true w) (hs : ∀ w, (sizeOf T).run P w = .ok cs.length w)
    (hR : R (.returned (.tuple #[.agg cs.toArray, a.tmps.getD x undef])) w) : bodyPost P fn R .ret a w := by
  refine bodyPost_ret (v := .tuple #[.agg cs.toArray, a.tmps.getD x undef]) ?_ hd hR
  simp only [results, hr]
  simp [Sem.run_bind, Result.andThen]
  rw [show a.tmps[p]?.getD undef = .pointer (some ⟨b, 0, none⟩) by rw [← hp]; simp]
  simp [asAddr, Sem.run_pure, run_loadVar_block hb ha hs]
end
theorem agg_date (w : World) : (isAgg 26).run Try.prog w = .ok true w := by kernel_rfl
theorem size_date (w : World) : (sizeOf 26).run Try.prog w = .ok 3 w := by kernel_rfl
def dateV (y m d e : Int) : Value := .tuple #[.agg #[.int .i64 y, .int .i64 m, .int .i64 d], .int .i64 e]
set_option maxRecDepth 100000 in
set_option maxHeartbeats 1000000 in
theorem date_bad (n : Int) (w : World) (h : ¬ (0 ≤ n ∧ n ≤ 3652058)) :
    Calls Try.prog 18 #[.int .i64 n] w fun e w' => e = .returned (dateV 0 0 0 5) ∧ Below w.heap.size w w' := by
  have hv := valid_any n
  rw [decide_eq_false h] at hv
  clear h
  go_enter Try.func18, Try.ntmps18
  go_wp2_with (go_at_call 47; refine (hv _).mono ?_; rintro e w' ⟨rfl, rfl⟩)
  exact ret_ct (T := 26) rfl rfl rfl (Block.new w _ [.int .i64 0, .int .i64 0, .int .i64 0]) agg_date size_date ⟨rfl, bel_alloc (Below.refl _ _) _⟩
/-- The date of a day. -/
def IsDate (n : Int) (y : Int) (m : Nat) (d : Int) : Prop := Civ.IsD y m d ∧ Civ.num y m d = n
def DateR (n : Int) (w : World) (e : Ending) (w' : World) : Prop := ∃ (y : Int) (m : Nat) (d : Int), IsDate n y m d ∧ e = .returned (dateV y m d 0) ∧ Below w.heap.size w w'
set_option maxRecDepth 100000 in
set_option maxHeartbeats 1000000 in
theorem date_good (n : Int) (w : World) (h0 : 0 ≤ n) (h1 : n ≤ 3652058) : Calls Try.prog 18 #[.int .i64 n] w (DateR n w) := by
  have hv := valid_any n
  rw [decide_eq_true ⟨h0, h1⟩] at hv
  have hl := fun (y : Int) (k : Nat) => length_any y k
  have hy := fun c r1 f r2 o => Civ.year_guess n (n / 146097) (n % 146097) c r1 f r2 o h0 h1 rfl rfl
  obtain ⟨q, hq⟩ : ∃ q, n / 146097 = q := ⟨_, rfl⟩
  obtain ⟨r, hr⟩ : ∃ r, n % 146097 = r := ⟨_, rfl⟩
  have q0 : 0 ≤ q ∧ q ≤ 24 := by omega
  have r0 : 0 ≤ r ∧ r < 146097 := by omega
  rw [hq, hr] at hy
  obtain ⟨q0, q1⟩ := q0
  obtain ⟨r0, r1⟩ := r0
  have Hy := Lib.hid hy
  clear hy
  go_enter Try.func18, Try.ntmps18
  go_upto_region 4 with (go_at_call 47; refine (hv _).mono ?_; rintro e w' ⟨rfl, rfl⟩)
  go_cut [4, 5, 6] (fun s4 s5 s wx => ∃ c : Int, s4 = .int .i64 (400 * q) ∧ s5 = .int .i64 r ∧ s = .int .i64 c ∧ c = min (r / 36524) 3 ∧ wx = w.alloc (.cells #[.int .i64 0, .int .i64 0, .int .i64 0] 26))
  case first =>
    go_wp2_with fail
    all_goals
      go_meet
      refine ⟨_, rfl, rfl, rfl, ?_, rfl⟩
      omega
  case rest =>
    obtain ⟨c, rfl, rfl, rfl, hc, rfl⟩ := hcut
    have c0 : 0 ≤ c ∧ c ≤ 3 ∧ 0 ≤ r - c * 36524 ∧ r - c * 36524 ≤ 36524 := by omega
    obtain ⟨c0, c1, c2, c3⟩ := c0
    have Hc := Lib.hid hc
    obtain ⟨u, hu⟩ : ∃ u, r - c * 36524 = u := ⟨_, rfl⟩
    obtain ⟨f, hf⟩ : ∃ f, u / 1461 = f := ⟨_, rfl⟩
    obtain ⟨v, hvv⟩ : ∃ v, u % 1461 = v := ⟨_, rfl⟩
    rw [hu] at c2 c3
    have f0 : 0 ≤ f ∧ f ≤ 24 ∧ 0 ≤ v ∧ v ≤ 1460 := by omega
    obtain ⟨f0, f1, v0, v1⟩ := f0
    clear hc
    go_upto_region 8 with fail
    go_cut [5, 7, 8] (fun s5 s7 s wx => ∃ o : Int, s5 = .int .i64 v ∧ s7 = .int .i64 f ∧ s = .int .i64 o ∧ o = min (v / 365) 3 ∧ wx = w.alloc (.cells #[.int .i64 0, .int .i64 0, .int .i64 0] 26))
    case first =>
      go_wp2_with fail
      all_goals
        go_meet
        refine ⟨_, rfl, rfl, rfl, ?_, rfl⟩
        omega
    case rest =>
      obtain ⟨o, rfl, rfl, rfl, ho, rfl⟩ := hcut
      have hy2 := Hy.out c u f v o Hc.out hu.symm hf.symm hvv.symm ho
      have o0 : 0 ≤ o ∧ o ≤ 3 ∧ 0 ≤ v - 365 * o ∧ v - 365 * o ≤ 365 := by omega
      obtain ⟨o0, o1, o2, o3⟩ := o0
      obtain ⟨y, hye⟩ : ∃ y, 400 * q + 100 * c + 4 * f + o + 1 = y := ⟨_, rfl⟩
      obtain ⟨z, hze⟩ : ∃ z, v - 365 * o = z := ⟨_, rfl⟩
      rw [hye, hze] at hy2
      rw [hze] at o2 o3
      obtain ⟨y1, y2, hsum, -, z1⟩ := hy2
      have Hsum := Lib.hid hsum
      have Hyear := Lib.hid (Civ.cum_year y y1 y2)
      have Hz := Lib.hid z1
      clear ho hsum hu hf hvv z1 Hy
      go_wp2_with fail
      clear hye hze
      have Hl := Lib.hid (fun (k : Nat) => length_any y k)
      clear hl
      go_loopw [5] (fun s wr => ∃ (k : Nat) (left : Int), 1 ≤ k ∧ k ≤ 12 ∧ 0 ≤ left ∧ left ≤ 366 ∧ left + Civ.cum y k = z ∧ s = .int .i64 left ∧ wr = (w.alloc (.cells #[.int .i64 0, .int .i64 0, .int .i64 0] 26)).alloc (.cells #[.int .i64 y, .int .i64 k, .int .i64 0] 26))
        (fun s _ => (intOf s).toNat)
      case atStart => exact ⟨1, z, by omega, by omega, by omega, by omega, by rw [Civ.cum_one]; omega, rfl, rfl⟩
      case round =>
        obtain ⟨k, left, k1, k2, l0, l1, hs, rfl, rfl⟩ := hrel
        have hlk := Hl.out k
        have hd := Civ.dim_lo y k
        have Hs := Lib.hid hs
        clear hs
        by_cases hlt : Civ.dim y k ≤ left
        · have hk12 : k < 12 := by
            rcases Nat.lt_or_ge k 12 with h | h
            · exact h
            · obtain rfl : k = 12 := by omega
              have h1 : Civ.cum y 13 = Civ.cum y 12 + Civ.dim y ((12 : Nat) : Int) := Civ.cum_succ y 12 (by omega)
              have h2 := Hs.out
              have h3 := Hyear.out
              have h4 := Hz.out
              omega
          have Hn := Lib.hid (Civ.cum_succ y k k1)
          have hpos : 28 ≤ Civ.dim y k := Civ.dim_pos y k y1 y2 k1 k2
          go_wp2_with (go_at_call 20; refine (hlk _ (by omega) (by omega) (by omega) (by omega)).mono ?_; rintro e w' ⟨rfl, rfl⟩)
          go_roundw
          case rel => exact ⟨k + 1, left - Civ.dim y k, by omega, by omega, by omega, by omega, by have := Hs.out; rw [Hn.out]; omega, by go_num, by go_num⟩
          case measure => simp [intOf]; omega
        · go_wp2_with (go_at_call 20; refine (hlk _ (by omega) (by omega) (by omega) (by omega)).mono ?_; rintro e w' ⟨rfl, rfl⟩)
          refine ret_ct (T := 26) rfl rfl rfl ((Block.new w _ [.int .i64 y, .int .i64 k, .int .i64 (left + 1)]).alloc _) agg_date size_date
            ⟨y, k, left + 1, ⟨⟨y1, y2, k1, k2, by omega, by omega⟩, ?_⟩, rfl, bel_alloc (bel_alloc (Below.refl _ _) _) _⟩
          have h1 := Hs.out
          have h2 := Hsum.out
          unfold Civ.num
          omega
end Go.Proofs.Ytdjkdfgifajilaa
