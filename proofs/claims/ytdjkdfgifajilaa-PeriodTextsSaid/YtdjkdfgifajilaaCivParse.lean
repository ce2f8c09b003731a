/- The walk of 'civil.Parse'. -/
import Derived.Test.YtdjkdfgifajilaaCivText
import Derived.Lib.SlBytesConst
namespace Go.Proofs.Ytdjkdfgifajilaa
open Go.RowKit

def nums (s : ByteArray) : List Int := s.data.toList.map fun b => (b.toNat : Int)
theorem nums_len (s : ByteArray) : (nums s).length = s.size := by unfold nums; rw [List.length_map, Array.length_toList]; rfl
theorem nums_get (s : ByteArray) (i : Nat) (h : i < s.size) : (nums s).getD i 0 = (s[i].toNat : Int) := by
  unfold nums
  rw [List.getD, List.getElem?_map, Array.getElem?_toList, Array.getElem?_eq_getElem (show i < s.data.size from h)]
  rfl
/-- '[]byte' of a constant. -/
theorem conv_const (w : World) (C : Array Value) (n c b : Nat) (hb : b = w.heap.size) : (convert 53 53 (.slice (some ⟨b, 0, none⟩) n c)).run Try.prog (w.alloc (.cells C 5)) = .ok (.slice (some ⟨b, 0, none⟩) n c) (w.alloc (.cells C 5 (C.size, C.size + 1))) := by
  subst hb
  exact Lib.run_convert_bytes_const (P := Try.prog) w 53 5 C n c Try.underlying53 Try.underlying5
/-- What 'Parse' hands back. -/
def parseV (r : Int × Int × Int) : Value := .tuple #[.int .i64 r.1, .agg #[.int .i64 r.2.1, .int .i64 r.2.2]]
theorem dayF_calls (y m d : Int) (w : World) (hy : -9223372036854775808 ≤ y ∧ y ≤ 9223372036854775807) (hm : -9223372036854775808 ≤ m ∧ m ≤ 9223372036854775807) :
    Calls Try.prog 16 #[.int .i64 y, .int .i64 m, .int .i64 d] w fun r w' => r = .returned (.tuple #[.int .i64 (Civ.dayF y m d).1, .int .i64 (Civ.dayF y m d).2]) ∧ w = w' := by
  unfold Civ.dayF
  by_cases h : d < 1 ∨ Civ.dim y m < d
  · rw [if_pos h]; exact day_bad y m d w hy.1 hy.2 hm.1 hm.2 h
  · rw [if_neg h]
    obtain ⟨k, rfl, hk⟩ := Civ.isD_of y m d (by omega) (by omega)
    exact day_good y d k w hk
section
variable {P : Program} {fn : Func} {R : Ending → World → Prop} {a : Act} {w : World} {T t : TypeId} {b : Nat} {cs : List Value}
theorem ret_tc {x p : Tmp} (hr : fn.results = #[.tmp x, .cell p T]) (hd : a.defers = []) (hp : a.tmps.getD p undef = .pointer (some ⟨b, 0, none⟩)) (hb : Block w b t cs) (ha : ∀ w, (isAgg T).run P w = .ok true w) (hs : ∀ w, (sizeOf T).run P w = .ok cs.length w)
    (hR : R (.returned (.tuple #[a.tmps.getD x undef, .agg cs.toArray])) w) : bodyPost P fn R .ret a w := by
  refine bodyPost_ret (v := .tuple #[a.tmps.getD x undef, .agg cs.toArray]) ?_ hd hR
  simp only [results, hr]
  simp [Sem.run_bind, Result.andThen]
  rw [show a.tmps[p]?.getD undef = .pointer (some ⟨b, 0, none⟩) by rw [← hp]; simp]
  simp [asAddr, Sem.run_pure, run_loadVar_block hb ha hs]
end
theorem agg_fault (w : World) : (isAgg 39).run Try.prog w = .ok true w := by kernel_rfl
theorem size_fault (w : World) : (sizeOf 39).run Try.prog w = .ok 2 w := by kernel_rfl
/-- Which number a place belongs to. -/
def partAt (j : Nat) : Int := if 8 ≤ j then 2 else if 5 ≤ j then 1 else 0
/-- The pattern's byte at a place. -/
def patAt (j : Nat) : Int := if j = 4 ∨ j = 7 then 45 else 100
theorem part_sep (j : Nat) (h : j = 4 ∨ j = 7) : wrap64 (partAt j + 1) = partAt (j + 1) := by
  rcases h with rfl | rfl <;> (unfold wrap64 partAt; simp)
/-- What holds at a round's head. -/
def Nums (xs : List Int) (j : Nat) (a0 a1 a2 : Int) : Prop :=
  (∀ q, q < j → Civ.okAt xs q) ∧ a0 = Civ.val xs 0 (min j 4) ∧ a1 = Civ.val xs 5 (min (j - 5) 2) ∧ a2 = Civ.val xs 8 (j - 8)
theorem pow_4 (k : Nat) (h : k ≤ 4) : (10 : Int) ^ k ≤ 10000 := by
  rcases (by omega : k = 0 ∨ k = 1 ∨ k = 2 ∨ k = 3 ∨ k = 4) with rfl | rfl | rfl | rfl | rfl <;> decide
theorem pow_2 (k : Nat) (h : k ≤ 2) : (10 : Int) ^ k ≤ 100 := by
  rcases (by omega : k = 0 ∨ k = 1 ∨ k = 2) with rfl | rfl | rfl <;> decide
theorem nums_lo {xs : List Int} {j : Nat} {a0 a1 a2 : Int} (hj : j ≤ 10) (h : Nums xs j a0 a1 a2) : 0 ≤ a0 ∧ a0 < 10000 ∧ 0 ≤ a1 ∧ a1 < 100 ∧ 0 ≤ a2 ∧ a2 < 100 := by
  obtain ⟨hok, rfl, rfl, rfl⟩ := h
  have l0 := Civ.val_lo (xs := xs) (a := 0) (n := min j 4) (fun p _ hp => Civ.ok_dig (hok p (by omega)) (by omega) (by omega))
  have l1 := Civ.val_lo (xs := xs) (a := 5) (n := min (j - 5) 2) (fun p h1 hp => Civ.ok_dig (hok p (by omega)) (by omega) (by omega))
  have l2 := Civ.val_lo (xs := xs) (a := 8) (n := j - 8) (fun p h1 hp => Civ.ok_dig (hok p (by omega)) (by omega) (by omega))
  have m0 := pow_4 (min j 4) (by omega)
  have m1 := pow_2 (min (j - 5) 2) (by omega)
  have m2 := pow_2 (j - 8) (by omega)
  omega
theorem nums_sep {xs : List Int} {j : Nat} {a0 a1 a2 : Int} (h : Nums xs j a0 a1 a2) (hj : j = 4 ∨ j = 7) (hx : Civ.okAt xs j) : Nums xs (j + 1) a0 a1 a2 := by
  obtain ⟨hok, rfl, rfl, rfl⟩ := h
  rcases hj with rfl | rfl
  · exact ⟨Civ.ok_snoc hok hx, rfl, rfl, rfl⟩
  · exact ⟨Civ.ok_snoc hok hx, rfl, rfl, rfl⟩
theorem nums_0 {xs : List Int} {j : Nat} {a0 a1 a2 x : Int} (h : Nums xs j a0 a1 a2) (hj : j < 4) (hx : Civ.okAt xs j) (hg : xs.getD j 0 = x) : Nums xs (j + 1) (10 * a0 + (x - 48)) a1 a2 := by
  obtain ⟨hok, rfl, rfl, rfl⟩ := h
  refine ⟨Civ.ok_snoc hok hx, ?_, by rw [show j + 1 - 5 = j - 5 by omega], by rw [show j + 1 - 8 = j - 8 by omega]⟩
  rw [show min (j + 1) 4 = min j 4 + 1 by omega, Civ.val, show 0 + min j 4 = j by omega, hg]
theorem nums_1 {xs : List Int} {j : Nat} {a0 a1 a2 x : Int} (h : Nums xs j a0 a1 a2) (hj : j = 5 ∨ j = 6) (hx : Civ.okAt xs j) (hg : xs.getD j 0 = x) : Nums xs (j + 1) a0 (10 * a1 + (x - 48)) a2 := by
  obtain ⟨hok, rfl, rfl, rfl⟩ := h
  refine ⟨Civ.ok_snoc hok hx, by rw [show min (j + 1) 4 = min j 4 by omega], ?_, by rw [show j + 1 - 8 = j - 8 by omega]⟩
  rw [show min (j + 1 - 5) 2 = min (j - 5) 2 + 1 by omega, Civ.val, show 5 + min (j - 5) 2 = j by omega, hg]
theorem nums_2 {xs : List Int} {j : Nat} {a0 a1 a2 x : Int} (h : Nums xs j a0 a1 a2) (hj : 8 ≤ j) (hx : Civ.okAt xs j) (hg : xs.getD j 0 = x) : Nums xs (j + 1) a0 a1 (10 * a2 + (x - 48)) := by
  obtain ⟨hok, rfl, rfl, rfl⟩ := h
  refine ⟨Civ.ok_snoc hok hx, by rw [show min (j + 1) 4 = min j 4 by omega], by rw [show min (j + 1 - 5) 2 = min (j - 5) 2 by omega], ?_⟩
  rw [show j + 1 - 8 = (j - 8) + 1 by omega, Civ.val, show 8 + (j - 8) = j by omega, hg]
theorem pat_cell (w : World) (j : Nat) (hj : j < 10) : (w.alloc (.cells #[.int .u8 100, .int .u8 100, .int .u8 100, .int .u8 100, .int .u8 45, .int .u8 100, .int .u8 100, .int .u8 45, .int .u8 100, .int .u8 100] 5 (10, 11))).cell? ⟨w.heap.size, j, none⟩ = some (.int .u8 (patAt j)) := by
  simp only [World.cell?, heap_alloc_new]
  rcases (by omega : j = 0 ∨ j = 1 ∨ j = 2 ∨ j = 3 ∨ j = 4 ∨ j = 5 ∨ j = 6 ∨ j = 7 ∨ j = 8 ∨ j = 9) with rfl | rfl | rfl | rfl | rfl | rfl | rfl | rfl | rfl | rfl <;> rfl
/-- The pattern's bytes lie in block g. -/
def Pat (wr : World) (g : Nat) : Prop := ∀ k : Nat, k < 10 → wr.cell? ⟨g, k, none⟩ = some (.int .u8 (patAt k))
theorem Pat.set {wr : World} {g : Nat} (h : Pat wr g) {p : Addr} (hp : p.block ≠ g) (u : Value) : Pat (wr.setCell p u) g := fun k hk => by
  rw [World.cell?_setCell_other _ _ _ _ (fun e => by subst e; exact hp rfl)]
  exact h k hk
theorem Pat.drew {wr : World} {g : Nat} (h : Pat wr g) : Pat wr.drew g := h
set_option maxRecDepth 100000 in
set_option maxHeartbeats 8000000 in
theorem parse_any (s : ByteArray) (w : World) (hs : s.size ≤ maxLen) : Calls Try.prog 29 #[.string s] w fun e w' => e = .returned (parseV (Civ.parseF (nums s))) ∧ Below w.heap.size w w' := by
  unfold maxLen at hs
  have kc := fun (w : World) (C : Array Value) (n c b : Nat) (hb : b = w.heap.size) => conv_const w C n c b hb
  have hl := nums_len s
  have hget := nums_get s
  generalize nums s = xs at *
  have Hl := Lib.hid hl
  have Hg := Lib.hid hget
  clear hl hget
  go_enter Try.func29, Try.ntmps29
  go_wp2_with fail
  clear kc
  go_loopw [5, 13] (fun p i wr => ∃ (j : Nat) (a0 a1 a2 : Int), j ≤ 10 ∧ i = .int .i64 j ∧ p = .int .i64 (partAt j) ∧ Nums xs j a0 a1 a2 ∧ Below w.heap.size w wr ∧
      Block wr w.heap.size 39 [.int .i64 0, .int .i64 0] ∧ Block wr (w.heap.size + 1) 52 [.int .i64 a0, .int .i64 a1, .int .i64 a2] ∧ Pat wr (w.heap.size + 1 + 1))
    (fun _ i _ => 10 - (intOf i).toNat)
  case atStart =>
    refine ⟨0, 0, 0, 0, by omega, rfl, rfl, ⟨fun q hq => absurd hq (by omega), rfl, rfl, rfl⟩, ?_, ?_, ?_, ?_⟩
    · exact bel_alloc (bel_alloc (bel_alloc (Below.refl _ _) _) _) _
    · exact ((Block.new w _ [.int .i64 0, .int .i64 0]).alloc _).alloc _
    · have := (Block.new (w.alloc (.cells #[.int .i64 0, .int .i64 0] 39)) 52 [.int .i64 0, .int .i64 0, .int .i64 0]).alloc (.cells #[.int .u8 100, .int .u8 100, .int .u8 100, .int .u8 100, .int .u8 45, .int .u8 100, .int .u8 100, .int .u8 45, .int .u8 100, .int .u8 100] 5 (10, 11))
      simpa using this
    · intro k hk
      have := pat_cell ((w.alloc (.cells #[.int .i64 0, .int .i64 0] 39)).alloc (.cells #[.int .i64 0, .int .i64 0, .int .i64 0] 52)) k hk
      simpa using this
  case round =>
    obtain ⟨j, a0, a1, a2, hj, rfl, rfl, hnum, hbel, hF, hA, hpat⟩ := hrel
    have hb := nums_lo hj hnum
    have Hn := Lib.hid hnum
    have hjs : j ≤ s.size := by
      rcases Nat.eq_zero_or_pos j with h | h
      · omega
      · have := (hnum.1 (j - 1) (by omega)).1
        have := Hl.out
        omega
    clear hnum
    have c0 := hA.cell 0
    have c1 := hA.cell 1
    have c2 := hA.cell 2
    have f0 := hF.cell 0
    have f1 := hF.cell 1
    have fr := hA.free
    have ff := hF.free
    simp only [List.getElem?_cons_zero, List.getElem?_cons_succ] at c0 c1 c2 f0 f1
    by_cases hlt : j < 10
    · have hc := hpat j hlt
      by_cases hls : j < s.size
      · have hg := Hg.out j hls
        have Hgj := Lib.hid hg
        obtain ⟨x, hx⟩ : ∃ x, s[j] = x := ⟨_, rfl⟩
        by_cases h47 : j = 4 ∨ j = 7
        · rw [show patAt j = 45 by unfold patAt; rw [if_pos h47]] at hc
          by_cases h45 : (x.toNat : Int) = 45
          · have h45t : ((x.toNat : Int) == 45) = true := by simpa using h45
            have h45f : ((x.toNat : Int) != 45) = false := by simpa using h45
            have hn := Lib.hid (nums_sep Hn.out h47 ⟨by rw [Hl.out]; exact hls, by rw [if_pos h47, hg, hx]; exact h45⟩)
            clear hg
            go_wp2_with fail
            go_roundw
            case rel => exact ⟨j + 1, a0, a1, a2, by omega, by go_num, congrArg (Value.int IntKind.i64) (part_sep j h47), hn.out, hbel, hF, hA, hpat⟩
            case measure => simp [intOf]; omega
          · have h45t : ((x.toNat : Int) == 45) = false := by simpa using h45
            have h45f : ((x.toNat : Int) != 45) = true := by simpa using h45
            have hr := Lib.hid (Civ.parse_bad Hn.out.1 hlt (fun hh => h45 (by have := hh.2; rw [if_pos h47, hg, hx] at this; exact this)))
            clear hg
            go_wp2_with fail
            exact ret_tc (T := 39) rfl rfl rfl ((hF.set 0 (.int .i64 4)).set 1 (.int .i64 j)) agg_fault size_fault ⟨by rw [hr.out]; rfl, bel_set (bel_set hbel (Nat.le_refl _) _) (Nat.le_refl _) _⟩
        · rw [show patAt j = 100 by unfold patAt; rw [if_neg h47]] at hc
          by_cases hd : 48 ≤ (x.toNat : Int) ∧ (x.toNat : Int) ≤ 57
          · have hok : Civ.okAt xs j := ⟨by rw [Hl.out]; exact hls, by rw [if_neg h47, hg, hx]; exact hd⟩
            obtain ⟨d1, d2⟩ := hd
            rcases (by omega : j < 4 ∨ (j = 5 ∨ j = 6) ∨ 8 ≤ j) with h4 | h5 | h8
            · rw [show partAt j = 0 by unfold partAt; rw [if_neg (by omega), if_neg (by omega)]]
              have hn := Lib.hid (nums_0 Hn.out h4 hok (hg.trans (by rw [hx])))
              clear hg hok
              go_wp2_with fail
              go_region
              go_wp2_with fail
              go_roundw
              case rel => exact ⟨j + 1, 10 * a0 + (x.toNat - 48), a1, a2, by omega, by go_num, by rw [show partAt (j + 1) = 0 by unfold partAt; rw [if_neg (by omega), if_neg (by omega)]], hn.out, (bel_set hbel (p := ⟨w.heap.size + 1, 0, none⟩) (Nat.le_succ _) _).drew, (hF.far (p := ⟨w.heap.size + 1, 0, none⟩) (by simp) _).drew, (hA.set 0 _).drew, (hpat.set (p := ⟨w.heap.size + 1, 0, none⟩) (by simp) _).drew⟩
              case measure => simp [intOf]; omega
            · rw [show partAt j = 1 by unfold partAt; rw [if_neg (by omega), if_pos (by omega)]]
              have hn := Lib.hid (nums_1 Hn.out h5 hok (hg.trans (by rw [hx])))
              clear hg hok
              go_wp2_with fail
              go_region
              go_wp2_with fail
              go_roundw
              case rel => exact ⟨j + 1, a0, 10 * a1 + (x.toNat - 48), a2, by omega, by go_num, by rw [show partAt (j + 1) = 1 by unfold partAt; rw [if_neg (by omega), if_pos (by omega)]], hn.out, (bel_set hbel (p := ⟨w.heap.size + 1, 1, none⟩) (Nat.le_succ _) _).drew, (hF.far (p := ⟨w.heap.size + 1, 1, none⟩) (by simp) _).drew, (hA.set 1 _).drew, (hpat.set (p := ⟨w.heap.size + 1, 1, none⟩) (by simp) _).drew⟩
              case measure => simp [intOf]; omega
            · rw [show partAt j = 2 by unfold partAt; rw [if_pos (by omega)]]
              have hn := Lib.hid (nums_2 Hn.out h8 hok (hg.trans (by rw [hx])))
              clear hg hok
              go_wp2_with fail
              go_region
              go_wp2_with fail
              go_roundw
              case rel => exact ⟨j + 1, a0, a1, 10 * a2 + (x.toNat - 48), by omega, by go_num, by rw [show partAt (j + 1) = 2 by unfold partAt; rw [if_pos (by omega)]], hn.out, (bel_set hbel (p := ⟨w.heap.size + 1, 2, none⟩) (Nat.le_succ _) _).drew, (hF.far (p := ⟨w.heap.size + 1, 2, none⟩) (by simp) _).drew, (hA.set 2 _).drew, (hpat.set (p := ⟨w.heap.size + 1, 2, none⟩) (by simp) _).drew⟩
              case measure => simp [intOf]; omega
          · have hr := Lib.hid (Civ.parse_bad Hn.out.1 hlt (fun hh => hd (by have := hh.2; rw [if_neg h47, hg, hx] at this; exact this)))
            clear hg
            rcases (by omega : (x.toNat : Int) < 48 ∨ (¬ (x.toNat : Int) < 48 ∧ 57 < (x.toNat : Int))) with d1 | ⟨d1, d2⟩
            all_goals
              clear hd
              go_wp2_with fail
              exact ret_tc (T := 39) rfl rfl rfl ((hF.set 0 (.int .i64 4)).set 1 (.int .i64 j)) agg_fault size_fault ⟨by rw [hr.out]; rfl, bel_set (bel_set hbel (Nat.le_refl _) _) (Nat.le_refl _) _⟩
      · have hjs2 : j = s.size := by omega
        have hr := Lib.hid (Civ.parse_bad Hn.out.1 hlt (fun hh => by have := hh.1; rw [Hl.out] at this; omega))
        have heq : ((j : Int) == (s.size : Int)) = true := by simp; omega
        clear hjs2
        go_wp2_with fail
        exact ret_tc (T := 39) rfl rfl rfl ((hF.set 0 (.int .i64 4)).set 1 (.int .i64 j)) agg_fault size_fault ⟨by rw [hr.out]; rfl, bel_set (bel_set hbel (Nat.le_refl _) _) (Nat.le_refl _) _⟩
    · obtain rfl : j = 10 := by omega
      by_cases hlong : 10 < s.size
      · have hr := Lib.hid (Civ.parse_long Hn.out.1 (by rw [Hl.out]; exact hlong))
        go_wp2_with fail
        exact ret_tc (T := 39) rfl rfl rfl ((hF.set 0 (.int .i64 4)).set 1 (.int .i64 10)) agg_fault size_fault ⟨by rw [hr.out]; rfl, bel_set (bel_set hbel (Nat.le_refl _) _) (Nat.le_refl _) _⟩
      · have hr := Lib.hid (Civ.parse_day Hn.out.1 (by rw [Hl.out]; exact hlong))
        have q0 : Hid (a0 = Civ.val xs 0 4) := Hn.out.2.1
        have q1 : Hid (a1 = Civ.val xs 5 2) := Hn.out.2.2.1
        have q2 : Hid (a2 = Civ.val xs 8 2) := Hn.out.2.2.2
        have hday := fun w => dayF_calls a0 a1 a2 w (by omega) (by omega)
        obtain ⟨D, E, hDE⟩ : ∃ D E, Civ.dayF a0 a1 a2 = (D, E) := ⟨_, _, rfl⟩
        rw [hDE] at hday
        have HDE := Lib.hid hDE
        clear hDE
        have hE : E = 0 ∨ ((E == 0) = false ∧ (E != 0) = true ∧ D = 0) := by
          have := HDE.out
          unfold Civ.dayF at this
          split at this <;> simp only [Prod.mk.injEq] at this
          · obtain ⟨rfl, rfl⟩ := this; exact .inr ⟨rfl, rfl, rfl⟩
          · exact .inl this.2.symm
        rcases hE with rfl | ⟨h1, h2, rfl⟩
        · go_wp2_with fail
          refine (hday _).mono ?_
          rintro e w1 ⟨rfl, rfl⟩
          go_wp2_with fail
          exact ret_tc (T := 39) rfl rfl rfl ((hF.set 0 (.int .i64 0)).set 1 (.int .i64 0)) agg_fault size_fault ⟨by rw [hr.out, ← q0.out, ← q1.out, ← q2.out, HDE.out]; rfl, bel_set (bel_set hbel (Nat.le_refl _) _) (Nat.le_refl _) _⟩
        · go_wp2_with fail
          refine (hday _).mono ?_
          rintro e w1 ⟨rfl, rfl⟩
          go_wp2_with fail
          exact ret_tc (T := 39) rfl rfl rfl ((hF.set 0 (.int .i64 E)).set 1 (.int .i64 0)) agg_fault size_fault ⟨by rw [hr.out, ← q0.out, ← q1.out, ← q2.out, HDE.out]; rfl, bel_set (bel_set hbel (Nat.le_refl _) _) (Nat.le_refl _) _⟩
end Go.Proofs.Ytdjkdfgifajilaa
