/- The walk of 'slices.CompactFunc', as 'dated.Short' calls it. -/
import Derived.Test.YtoedhcenmbpeeaaDatShort
namespace Go.Proofs.Ytoedhcenmbpeeaa
open Go.RowKit

/-- 'x[k:]' of a row. -/
theorem cut_row (g n c k : Nat) (hk : k < n) (hc : n ≤ c) (w : World) :
    (Instr.slice 22 (.slice (some ⟨g, 0, none⟩) n c) (some (.int .i64 (k : Int))) none none).run Try.prog w = .ok (.slice (some ⟨g, k * 2, none⟩) (n - k) (c - k)) w := by
  have he : (Try.prog).elem 22 = 31 := by kernel_rfl
  rw [run_slice_l w 22 (some ⟨g, 0, none⟩) n c (by rw [he]; exact Try.underlying22) .i64 k (by omega) (by omega), he, size_dated]
  have hne : ¬ c = k := by omega
  simp [sliced, Result.andThen, Addr.add, hne]
  omega
theorem row_clear {w : World} {g n c k : Nat} {l : List (Int × Int)} {junk : List Value} (h : RowD w g l junk) (hl : l.length = n) (hk : k < n) :
    ∃ w2, (∀ ty : TypeId, (Builtin.clear_ #[22] ty #[.slice (some ⟨g, k * 2, none⟩) (n - k) (c - k)]).run Try.prog w = .ok (.tuple #[]) w2) ∧ w.grownBy w2 (some g) ∧ ∃ junk', RowD w2 g (l.take k) junk' ∧ junk'.length + k * 2 = junk.length + n * 2 := by
  obtain ⟨zs, hz, hrun⟩ := run_clear_row (P := Try.prog) w 22 31 0 (.agg #[.int .i64 0, .int .i64 0]) 2 Try.underlying22 zero_dated rfl (by intro v hv; simp [Value.cells] at hv; subst hv; rfl) g (k * 2) (n - k) (c - k) (DC l ++ junk) 31 h (by rw [List.length_append, dc_len]; omega)
  have hg : (w.setRow g ((DC l ++ junk).take (k * 2) ++ zs ++ (DC l ++ junk).drop (k * 2 + (n - k) * 2)).toArray).heap[g]? = some (.cells ((DC l ++ junk).take (k * 2) ++ zs ++ (DC l ++ junk).drop (k * 2 + (n - k) * 2)).toArray 31 (0, 0)) := setRow_heap w g (DC l ++ junk).toArray _ 31 (0, 0) h
  have ht : (DC l ++ junk).take (k * 2) = DC (l.take k) := by rw [List.take_append_of_le_length (by rw [dc_len]; omega), dc_take]
  refine ⟨_, fun _ => hrun, ⟨rfl, rfl, rfl, by simp [World.setRow], fun b hb hne => ?_⟩, zs ++ (DC l ++ junk).drop (k * 2 + (n - k) * 2), ?_, ?_⟩
  · simp only [World.setRow]
    rw [Array.getElem?_modify, if_neg (fun e => hne (by rw [e]))]
  · show _ = _
    rw [hg, ht, List.append_assoc]
  · simp only [List.length_append, List.length_drop, dc_len, hz]
    omega
set_option maxRecDepth 100000 in
set_option maxHeartbeats 8000000 in
theorem compact_any (g n c : Nat) (l : List (Int × Int)) (junk : List Value) (w : World) (hrow : RowD w g l junk) (hl : l.length = n) (hn : n ≤ 1000000) (hc : n ≤ c) :
    Calls Try.prog 28 #[.slice (some ⟨g, 0, none⟩) n c, .func (Fn.func 30) #[] #[]] w fun e w' =>
      e = .returned (.slice (some ⟨g, 0, none⟩) (Dat.dd l).length c) ∧ w.grownBy w' (some g) ∧ ∃ junk', RowD w' g (Dat.dd l) junk' ∧ junk'.length + (Dat.dd l).length * 2 = junk.length + n * 2 := by
  have Hl := Lib.hid hl
  have hle := Dat.dd_le l
  have Hle := Lib.hid hle
  clear hle
  by_cases h2 : n < 2
  · have hd := Lib.hid (Dat.dd_one (l := l) (by omega))
    clear hl
    go_enter Try.func28, Try.ntmps28
    go_wp2_with fail
    go_ret
    exact ⟨by rw [hd.out, Hl.out]; rfl, grown_of_below (Below.refl _ _) _, junk, by rw [hd.out]; exact hrow, by rw [hd.out, Hl.out]⟩
  · clear hl
    go_enter Try.func28, Try.ntmps28
    go_wp2_with fail
    go_loopw [5] (fun k wr => ∃ i : Nat, i + 1 ≤ n ∧ k = .int .i64 ((i + 1 : Nat) : Int) ∧ Dat.dd (l.take (i + 1)) = l.take (i + 1) ∧ Below w.heap.size w wr) (fun k _ => n - (intOf k).toNat)
    case atStart => exact ⟨0, by omega, rfl, Dat.dd_one (by simp; omega), Below.refl _ _⟩
    case round =>
      obtain ⟨i, hi, rfl, hdd, hbel⟩ := hrel
      have Hdd := Lib.hid hdd
      clear hdd
      have hrw := hrow.call hbel
      by_cases hlt : i + 1 < n
      · obtain ⟨y, hy⟩ : ∃ y, l[i]? = some y := ⟨l[i]'(by rw [Hl.out]; omega), List.getElem?_eq_getElem _⟩
        obtain ⟨x, hx⟩ : ∃ x, l[i + 1]? = some x := ⟨l[i + 1]'(by rw [Hl.out]; omega), List.getElem?_eq_getElem _⟩
        obtain ⟨c1, c2⟩ := hrw.two hx
        obtain ⟨c3, c4⟩ := hrw.two hy
        have hcall := fun w => short1_any x y w
        have Hy := Lib.hid hy
        have Hx := Lib.hid hx
        have q1 : IntKind.i64.wrap ((i : Int) + 1 - 1) = (i : Int) := by rw [IntWalk.i64_in _ (by omega)]; omega
        have q2 : IntKind.i64.wrap (i : Int) = (i : Int) := IntWalk.i64_in _ (by omega)
        have q3 : (0 : Int) ≤ (i : Int) := by omega
        have q4 : (i : Int) < (n : Int) := by omega
        have q7 : (i : Int) + 1 < (n : Int) := by omega
        have q8 : (0 : Int) ≤ (i : Int) + 1 := by omega
        clear hy hx
        by_cases heq : x.2 = y.2
        · have hb : (x.2 == y.2) = true := by simpa using heq
          rw [hb] at hcall
          have Heq := Lib.hid heq
          clear heq
          go_wp2_with fail
          go_region_held3 (fun w' => w'.cell? ⟨g, (i + 1) * 2, none⟩ = some (.int .i64 x.1) ∧ w'.cell? ⟨g, (i + 1) * 2 + 1, none⟩ = some (.int .i64 x.2) ∧ w'.cell? ⟨g, i * 2, none⟩ = some (.int .i64 y.1) ∧ w'.cell? ⟨g, i * 2 + 1, none⟩ = some (.int .i64 y.2)) (go_keep) (first
            | (go_at_call 30; refine (hcall _).mono ?_; rintro e w1 ⟨rfl, hb1⟩; have hr1 := RowD.call (w := wr.drew) hrw hb1; have d1 := (hr1.two Hx.out).1; have d2 := (hr1.two Hx.out).2; have d3 := (hr1.two Hy.out).1; have d4 := (hr1.two Hy.out).2))
          have hcut := fun w => cut_row g n c (i + 1) hlt hc w
          simp only [Int.natCast_add, Int.natCast_one] at hcut
          have hd2 := Dat.dd_take Hy.out Hx.out
          rw [if_pos Heq.out, List.append_nil, Hdd.out] at hd2
          have hlen2 : (Dat.dd (l.take (i + 2))).length = i + 1 := by rw [hd2, List.length_take, Hl.out]; omega
          have hmid2 : mid l (i + 1 + 0 + 1) = l := by
            unfold mid
            rw [show i + 1 + 0 + 1 = i + 2 by omega, hlen2, hd2, List.take_append_drop]
          have Hmid2 := Lib.hid hmid2
          have Hlen2 := Lib.hid hlen2
          have hg1 := grown_of_below (bel_call (w := w) hbel.drew hb1) (some g)
          have Hr1 := Lib.hid hr1
          clear hd2 hlen2 hmid2 c1 c2 c3 c4 d1 d2 d3 d4 hr1 hrw hcall
          go_wp2_with fail
          go_loopw [5, 7] (fun k k2 wr => ∃ m K : Nat, i + 1 + m + 1 ≤ n ∧ k2 = .int .i64 ((m : Int) + 1) ∧ k = .int .i64 (K : Int) ∧ (Dat.dd (l.take (i + 1 + m + 1))).length = K ∧ K ≤ i + 1 + m ∧ RowD wr g (mid l (i + 1 + m + 1)) junk ∧ w.grownBy wr (some g)) (fun _ k2 _ => n - (intOf k2).toNat)
          case atStart => exact ⟨0, i + 1, by omega, rfl, rfl, Hlen2.out, by omega, by rw [Hmid2.out]; exact Hr1.out, hg1⟩
          case round =>
            obtain ⟨m, K, hm, rfl, rfl, hK, hKm, hrow2, hgr⟩ := hrel
            have HK := Lib.hid hK
            clear hK hcut
            by_cases hlt2 : i + 1 + m + 1 < n
            · obtain ⟨y2, hy2⟩ : ∃ y2, l[i + 1 + m]? = some y2 := ⟨l[i + 1 + m]'(by rw [Hl.out]; omega), List.getElem?_eq_getElem _⟩
              obtain ⟨x2, hx2⟩ : ∃ x2, l[i + 1 + m + 1]? = some x2 := ⟨l[i + 1 + m + 1]'(by rw [Hl.out]; omega), List.getElem?_eq_getElem _⟩
              have gx := mid_get (p := i + 1 + m + 1) hx2 (by rw [HK.out]; omega)
              have gy := mid_get (p := i + 1 + m + 1) hy2 (by rw [HK.out]; omega)
              obtain ⟨c1, c2⟩ := hrow2.two gx
              obtain ⟨c3, c4⟩ := hrow2.two gy
              have ex1 : (i + 1 + m + 1) * 2 = (i + 1) * 2 + (m + 1) * 2 := by omega
              have ey1 : (i + 1 + m) * 2 = (i + 1) * 2 + m * 2 := by omega
              rw [ex1] at c1 c2
              rw [ey1] at c3 c4
              have hcall := fun w => short1_any x2 y2 w
              have Hgx := Lib.hid gx
              have Hgy := Lib.hid gy
              have Hx2 := Lib.hid hx2
              have Hy2 := Lib.hid hy2
              have q1 : IntKind.i64.wrap ((m : Int) + 1 - 1) = (m : Int) := by rw [IntWalk.i64_in _ (by omega)]; omega
              have q2 : IntKind.i64.wrap (m : Int) = (m : Int) := IntWalk.i64_in _ (by omega)
              have q3 : (0 : Int) ≤ (m : Int) := by omega
              have q4 : (m : Int) < ((n - (i + 1) : Nat) : Int) := by omega
              have q7 : (m : Int) + 1 < ((n - (i + 1) : Nat) : Int) := by omega
              have q8 : (0 : Int) ≤ (m : Int) + 1 := by omega
              have q9 : m < n - (i + 1) := by omega
              have q10 : m + 1 < n - (i + 1) := by omega
              clear gx gy hx2 hy2 ex1 ey1
              by_cases heq2 : x2.2 = y2.2
              · have hb : (x2.2 == y2.2) = true := by simpa using heq2
                rw [hb] at hcall
                have Heq2 := Lib.hid heq2
                clear heq2
                go_wp2_with fail
                go_region_held3 (fun w' => w'.cell? ⟨g, (i + 1) * 2 + (m + 1) * 2, none⟩ = some (.int .i64 x2.1) ∧ w'.cell? ⟨g, (i + 1) * 2 + (m + 1) * 2 + 1, none⟩ = some (.int .i64 x2.2) ∧ w'.cell? ⟨g, (i + 1) * 2 + m * 2, none⟩ = some (.int .i64 y2.1) ∧ w'.cell? ⟨g, (i + 1) * 2 + m * 2 + 1, none⟩ = some (.int .i64 y2.2)) (go_keep) (first
                  | (go_at_call 30; refine (hcall _).mono ?_; rintro e w3 ⟨rfl, hb3⟩; have hr3 := RowD.call (w := wr.drew) hrow2 hb3; have d1 := (hr3.two Hgx.out).1; have d2 := (hr3.two Hgx.out).2; have d3 := (hr3.two Hgy.out).1; have d4 := (hr3.two Hgy.out).2; rw [show (i + 1 + m + 1) * 2 = (i + 1) * 2 + (m + 1) * 2 by omega] at d1 d2; rw [show (i + 1 + m) * 2 = (i + 1) * 2 + m * 2 by omega] at d3 d4))
                have hsame := mid_same Hy2.out Hx2.out Heq2.out
                have HK2 := Lib.hid (hsame.trans rfl : Dat.dd (l.take (i + 1 + m + 2)) = Dat.dd (l.take (i + 1 + m + 1)))
                have hrow3 : RowD w3 g (mid l (i + 1 + m + 2)) junk := by unfold mid; rw [HK2.out]; exact hr3
                have Hrow3 := Lib.hid hrow3
                have hg3 := grown_call (b := w3) (show w.grownBy wr.drew (some g) from grown_drewN hgr 1) hb3
                clear hsame hrow3 d1 d2 d3 d4 c1 c2 c3 c4 hr3
                go_wp2_with fail
                go_roundw
                case rel => exact ⟨m + 1, K, by omega, by go_num, rfl, by rw [show i + 1 + (m + 1) + 1 = i + 1 + m + 2 by omega, HK2.out]; exact HK.out, by omega, Hrow3.out, hg3⟩
                case measure => simp [intOf]; omega
              · have hb : (x2.2 == y2.2) = false := by simpa using heq2
                rw [hb] at hcall
                have Heq2 := Lib.hid heq2
                clear heq2
                go_wp2_with fail
                go_region_held3 (fun w' => w'.cell? ⟨g, (i + 1) * 2 + (m + 1) * 2, none⟩ = some (.int .i64 x2.1) ∧ w'.cell? ⟨g, (i + 1) * 2 + (m + 1) * 2 + 1, none⟩ = some (.int .i64 x2.2) ∧ w'.cell? ⟨g, (i + 1) * 2 + m * 2, none⟩ = some (.int .i64 y2.1) ∧ w'.cell? ⟨g, (i + 1) * 2 + m * 2 + 1, none⟩ = some (.int .i64 y2.2)) (go_keep) (first
                  | (go_at_call 30; refine (hcall _).mono ?_; rintro e w3 ⟨rfl, hb3⟩; have hr3 := RowD.call (w := wr.drew) hrow2 hb3; have d1 := (hr3.two Hgx.out).1; have d2 := (hr3.two Hgx.out).2; have d3 := (hr3.two Hgy.out).1; have d4 := (hr3.two Hgy.out).2; rw [show (i + 1 + m + 1) * 2 = (i + 1) * 2 + (m + 1) * 2 by omega] at d1 d2; rw [show (i + 1 + m) * 2 = (i + 1) * 2 + m * 2 by omega] at d3 d4))
                have hset := mid_set Hy2.out Hx2.out Heq2.out
                rw [HK.out] at hset
                have Hset := Lib.hid hset
                have hKl : K < (mid l (i + 1 + m + 1)).length := by rw [mid_len, Hl.out]; omega
                have hst := hr3.set hKl x2
                rw [Hset.out] at hst
                have Hst := Lib.hid hst
                have hg3 := grown_call (b := w3) (show w.grownBy wr.drew (some g) from grown_drewN hgr 1) hb3
                have HK2 : Hid ((Dat.dd (l.take (i + 1 + m + 2))).length = K + 1) := by
                  have := Dat.dd_take Hy2.out Hx2.out
                  rw [if_neg Heq2.out] at this
                  show _ = _
                  rw [this, List.length_append, HK.out]; rfl
                have z1 := (hr3.two Hgx.out).1
                have hKlt : K < n := by omega
                obtain ⟨v0, hv0⟩ : ∃ v, w3.cell? ⟨g, K * 2, none⟩ = some v := by
                  rw [Block.cell hr3]
                  exact ⟨_, List.getElem?_eq_getElem (by rw [List.length_append, dc_len, mid_len, Hl.out]; omega)⟩
                obtain ⟨v1, hv1⟩ : ∃ v, w3.cell? ⟨g, K * 2 + 1, none⟩ = some v := by
                  rw [Block.cell hr3]
                  exact ⟨_, List.getElem?_eq_getElem (by rw [List.length_append, dc_len, mid_len, Hl.out]; omega)⟩
                have hf0 := Block.free hr3
                clear hset hst c1 c2 c3 c4
                go_wp2_with fail
                go_roundw
                case rel => exact ⟨m + 1, K + 1, by omega, by go_num, by go_num, by rw [show i + 1 + (m + 1) + 1 = i + 1 + m + 2 by omega]; exact HK2.out, by omega, by rw [show i + 1 + (m + 1) + 1 = i + 1 + m + 2 by omega]; exact Hst.out, grown_set (grown_set hg3 _ rfl _) _ rfl _⟩
                case measure => simp [intOf]; omega
            · have hend : i + 1 + m + 1 = n := by omega
              have hKn : K < n := by omega
              obtain ⟨w4, hclr, hg4, junk4, hrow4, hj4⟩ := row_clear (c := c) hrow2 (by rw [mid_len, Hl.out]) hKn
              have hcK := fun w => cut_row g n c K hKn hc w
              have hcT := fun w => cut_to (P := Try.prog) 2 Try.underlying22 size_dated (some ⟨g, 0, none⟩) n c K (by omega) w
              have hfin : (mid l (i + 1 + m + 1)).take K = Dat.dd l := by
                unfold mid
                rw [HK.out, List.take_append_of_le_length (by rw [HK.out]; exact Nat.le_refl _), List.take_of_length_le (by rw [HK.out]; exact Nat.le_refl _), hend, List.take_of_length_le (by rw [Hl.out]; exact Nat.le_refl _)]
              rw [hfin] at hrow4
              have hKd : Hid ((Dat.dd l).length = K) := by
                have := HK.out
                rw [hend, List.take_of_length_le (by rw [Hl.out]; exact Nat.le_refl _)] at this
                exact this
              have Hrow4 := Lib.hid hrow4
              have Hj4 := Lib.hid hj4
              have Hg4 := Lib.hid (hgr.trans hg4)
              clear hfin hrow4 hj4 hg4 hend
              have hlt3 : ¬ (m : Int) + 1 < ((n - (i + 1) : Nat) : Int) := by omega
              go_wp2_with fail
              go_ret
              exact ⟨by rw [hKd.out]; rfl, Hg4.out, junk4, Hrow4.out, by rw [hKd.out]; exact Hj4.out⟩
        · have hb : (x.2 == y.2) = false := by simpa using heq
          rw [hb] at hcall
          have Heq := Lib.hid heq
          clear heq
          go_wp2_with fail
          go_region_held3 (fun w' => w'.cell? ⟨g, (i + 1) * 2, none⟩ = some (.int .i64 x.1) ∧ w'.cell? ⟨g, (i + 1) * 2 + 1, none⟩ = some (.int .i64 x.2) ∧ w'.cell? ⟨g, i * 2, none⟩ = some (.int .i64 y.1) ∧ w'.cell? ⟨g, i * 2 + 1, none⟩ = some (.int .i64 y.2)) (go_keep) (first
            | (go_at_call 30; refine (hcall _).mono ?_; rintro e w1 ⟨rfl, hb1⟩; have hr1 := RowD.call (w := wr.drew) hrw hb1; have d1 := (hr1.two Hx.out).1; have d2 := (hr1.two Hx.out).2; have d3 := (hr1.two Hy.out).1; have d4 := (hr1.two Hy.out).2))
          have hd2 := Dat.dd_take Hy.out Hx.out
          rw [if_neg Heq.out, Hdd.out] at hd2
          have hd3 : Hid (Dat.dd (l.take (i + 1 + 1)) = l.take (i + 1 + 1)) := by
            show _ = _
            rw [show i + 1 + 1 = i + 2 by omega, hd2, List.take_add_one (i := i + 1), Hx.out]; rfl
          have hb2 := bel_call (w := w) hbel.drew hb1
          clear hd2 c1 c2 c3 c4 d1 d2 d3 d4 hr1 hrw hcall
          go_wp2_with fail
          go_roundw
          case rel => exact ⟨i + 1, by omega, by go_num, hd3.out, hb2⟩
          case measure => simp [intOf]; omega
      · have hend : i + 1 = n := by omega
        have hd : Hid (Dat.dd l = l) := by
          have := Hdd.out
          rw [hend, List.take_of_length_le (by rw [Hl.out]; exact Nat.le_refl _)] at this
          exact this
        clear hend
        go_wp2_with fail
        go_ret
        exact ⟨by rw [hd.out, Hl.out]; rfl, grown_of_below hbel _, junk, by rw [hd.out]; exact hrw, by rw [hd.out, Hl.out]⟩
end Go.Proofs.Ytoedhcenmbpeeaa
