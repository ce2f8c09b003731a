/- The walk of 'apportionlaw05.OctetBack'. -/
import Derived.Test.YtnhiipiciondoaaOctCutWalk
import Derived.Deep.RegionHeld3
namespace Go.Proofs.Ytnhiipiciondoaa
open Go.RowKit Go.Lib

theorem u8_app (a b : List Int) : U8 a ++ U8 b = U8 (a ++ b) := by simp [U8]
theorem str_nums (s : ByteArray) : strOfNums (nums s) = s := by
  cases s with
  | mk d =>
    unfold strOfNums nums
    congr 1
    apply Array.ext'
    simp only [List.map_map]
    conv => rhs; rw [← List.map_id d.toList]
    refine List.map_congr_left fun x _ => ?_
    simp
theorem take8 {w : World} {B n h : Nat} {A : Option Addr} {xs : List Int} (hs : Shows w B 1 A n (U8 xs)) (hh : h ≤ n) : Shows w B 1 A h (U8 (xs.take h)) := by
  have := hs.take hh
  rwa [u8_take] at this
theorem all_app {P : Int → Prop} {a b : List Int} (h1 : ∀ x ∈ a, P x) (h2 : ∀ x ∈ b, P x) : ∀ x ∈ a ++ b, P x := fun x hx => (List.mem_append.1 hx).elim (h1 x) (h2 x)
theorem getL_code (l : List Int) : ∀ (j rank : Nat) (a n : Int), (Oct.getL l j rank a n).2.2.1 = 0 ∨ (Oct.getL l j rank a n).2.2.1 = 4 ∨ (Oct.getL l j rank a n).2.2.1 = 5 := by
  induction l with
  | nil => intro j rank a n; rw [Oct.getL]; simp
  | cons x r ih =>
    intro j rank a n
    rw [Oct.getL]
    split
    · simp
    · split
      · simp
      · split
        · simp
        · exact ih _ _ _ _
theorem getB_code (l : List Int) (a : Int) : (Oct.getB l a).2.2.1 = 0 ∨ (Oct.getB l a).2.2.1 = 4 ∨ (Oct.getB l a).2.2.1 = 5 := by
  unfold Oct.getB
  split
  · simp
  · exact getL_code _ _ _ _ _
theorem getT_code (l : List Int) (a : Int) : (getT l a 1000).2.2.1 = 0 ∨ (getT l a 1000).2.2.1 = 3 ∨ (getT l a 1000).2.2.1 = 4 ∨ (getT l a 1000).2.2.1 = 5 := by
  unfold getT
  rw [if_neg (by decide)]
  simp only
  have := getB_code l a
  split
  · rename_i h
    simp only
    omega
  · split
    · simp
    · split
      · simp
      · unfold tail_
        repeat' split
        all_goals simp
/-- An operation that yields is taken first. -/
theorem wpAnyH_take_now {P : Program} {ops : Array Oper} {Q : Exit → Act → World → Prop} {md : Region.Mode} {S : World → Prop} {i : Nat} {oi : Oper} {v : Value} {fuel : Nat} {listed : Array Bool} {a : Act} {w : World} (hi : ops[i]? = some oi)
    (hs : Region.noSelect ops = true) (hf : Region.free md ops listed i = true) (hr : (Region.ready md ops listed).contains i = true)
    (hQ : ∀ c a w, Q (.panic c) (a.put oi.dst v) w → Q (.panic c) a w) (hw : Region.wanted oi (yielded ops a.tmps) = true) (hy : ∀ w, S w → (execOp a.eval oi).run P w = .ok (.value v) w) (hS : S w)
    (h : wpAnyH P md ops Q S fuel (listed.setIfInBounds i true) (a.put oi.dst v) w) : wpAnyH P md ops Q S (fuel + 1) listed a w :=
  wpAnyH_take hi hs hf hr hQ (Or.inl ⟨hw, hy⟩) hS h
/-- An operation whose guard does not hold is passed over first. -/
theorem wpAnyH_skip {P : Program} {ops : Array Oper} {Q : Exit → Act → World → Prop} {md : Region.Mode} {S : World → Prop} {i : Nat} {oi : Oper} {fuel : Nat} {listed : Array Bool} {a : Act} {w : World} (hi : ops[i]? = some oi)
    (hs : Region.noSelect ops = true) (hf : Region.free md ops listed i = true) (hr : (Region.ready md ops listed).contains i = true)
    (hQ : ∀ c a w, Q (.panic c) (a.put oi.dst undef) w → Q (.panic c) a w) (hw : Region.wanted oi (yielded ops a.tmps) = false) (hS : S w)
    (h : wpAnyH P md ops Q S fuel (listed.setIfInBounds i true) (a.put oi.dst undef) w) : wpAnyH P md ops Q S (fuel + 1) listed a w :=
  wpAnyH_take hi hs hf hr hQ (Or.inr ⟨hw, rfl⟩) hS h
set_option maxRecDepth 100000 in
set_option maxHeartbeats 4000000 in
theorem back_early (n : Int) (s : ByteArray) (A0 A1 Ab : Option Addr) (k0 c0 k1 c1 kb cb : Nat) (w : World) (hs : s.size ≤ 9223372036854775807) (h : 1000 < s.size ∨ 500 < k0 ∨ 1000 < k1 ∨ 1000 < kb) :
    Calls Try.prog 6 #[.int .i64 n, .string s, .slice A0 k0 c0, .slice A1 k1 c1, .slice Ab kb cb] w fun e w' => e = .returned (.bool true) ∧ Below w.heap.size w w' := by
  rcases (by omega : 1000 < s.size ∨ (¬ 1000 < s.size ∧ 500 < k0) ∨ (¬ 1000 < s.size ∧ ¬ 500 < k0 ∧ 1000 < k1) ∨ (¬ 1000 < s.size ∧ ¬ 500 < k0 ∧ ¬ 1000 < k1 ∧ 1000 < kb)) with h1 | ⟨h1, h2⟩ | ⟨h1, h2, h3⟩ | ⟨h1, h2, h3, h4⟩
  all_goals
    clear h
    go_enter Try.func6, Try.ntmps6
    go_wp2_with fail
    refine (awake_true _).mono ?_
    rintro e w1 ⟨rfl, hb1⟩
    go_wp2_with fail
    go_ret
    exact ⟨rfl, hb1⟩
set_option maxRecDepth 100000 in
set_option maxHeartbeats 32000000 in
theorem back_main (n : Int) (s : ByteArray) (A0 A1 Ab : Option Addr) (k0 c0 k1 c1 kb cb : Nat) (l ah bh : List Int) (w : World) (n0 : -9223372036854775808 ≤ n) (n1 : n ≤ 9223372036854775807)
    (hl : Shows w w.heap.size 1 A0 k0 (I64 l)) (hx : ∀ x ∈ l, -9223372036854775808 ≤ x ∧ x ≤ 9223372036854775807) (ha : Shows w w.heap.size 1 A1 k1 (U8 ah)) (hax : ∀ x ∈ ah, 0 ≤ x ∧ x ≤ 255) (hb : Shows w w.heap.size 1 Ab kb (U8 bh)) (hbx : ∀ x ∈ bh, 0 ≤ x ∧ x ≤ 255)
    (hbc : kb ≤ cb) (h1 : ¬ 1000 < s.size) (h2 : ¬ 500 < k0) (h3 : ¬ 1000 < k1) (h4 : ¬ 1000 < kb) :
    Calls Try.prog 6 #[.int .i64 n, .string s, .slice A0 k0 c0, .slice A1 k1 c1, .slice Ab kb cb] w fun e w' => e = .returned (.bool true) ∧ Below w.heap.size w w' := by
  obtain ⟨i0, hi, hz0, hz1, hz2⟩ := info_parts infoU8
  have hll : l.length = k0 := by have := hl.len; simpa [I64] using this
  have hal : ah.length = k1 := by have := ha.len; simpa [U8] using this
  have hbl : bh.length = kb := by have := hb.len; simpa [U8] using this
  have l1 := Oct.putN_pos (Oct.zig n)
  have l2 := Oct.putN_len10 (Oct.zig_lt n n0 n1)
  have l3 : (putT s).length ≤ 1010 := by
    have := Oct.putN_len10 (Oct.zig_lt s.size (by omega) (by omega))
    simp only [putT, List.length_append, nums_len]; omega
  have l4 : (putL l).length ≤ 5010 := by
    have := Oct.putN_len10 (Oct.zig_lt l.length (by omega) (by omega)); have := putAll_len l hx
    simp only [putL, List.length_append]; omega
  have hd : ∀ (xs : List Int), (ah ++ (xs ++ bh)).drop k1 = xs ++ bh := fun xs => by rw [← hal, List.drop_left]
  have atN := Oct.getB_at (rest := bh) ⟨n0, n1⟩ (hd (Oct.putN (Oct.zig n)))
  have atT := getT_at (most := s.size) (by omega) (Int.le_refl _) (hd (putT s))
  have atL := getLs_at (most := k0) (by omega) hx (by omega) (hd (putL l))
  have pN := Oct.putN_bytes (Oct.zig n)
  have pT := putT_bytes s
  have pL := putL_bytes l
  have qN := fun w => put_any n w n0 n1
  have qT := fun w => putText_any s w (by omega)
  have gN := fun h => Oct.getB_put (at_ := 0) hbx h
  have gT := fun h => getT_put (most := 1000) hbx h
  have gL := fun h => getLs_put (most := 1000) hbx h
  have rB := (Oct.getB_facts bh 0 hbx).1
  have rC := getB_code bh 0
  have tC := getT_code bh 0
  obtain ⟨r0, r1, r2, r3, hr⟩ : ∃ r0 r1 r2 r3, Oct.getB bh 0 = (r0, r1, r2, r3) := ⟨_, _, _, _, rfl⟩
  obtain ⟨t0, t1, t2, t3, ht⟩ : ∃ r0 r1 r2 r3, getT bh 0 1000 = (r0, r1, r2, r3) := ⟨_, _, _, _, rfl⟩
  obtain ⟨g0, g1, g2, g3, hg⟩ : ∃ r0 r1 r2 r3, getLs bh 0 1000 = (r0, r1, r2, r3) := ⟨_, _, _, _, rfl⟩
  rw [hr] at gN rB rC
  rw [ht] at gT tC
  have RC := Lib.hid rC
  have TC := Lib.hid tC
  clear rC tC
  rw [hg] at gL
  generalize hxN : Oct.putN (Oct.zig n) = xN at *
  generalize hxT : putT s = xT at *
  generalize hxL : putL l = xL at *
  have AtN := Lib.hid atN
  have AtT := Lib.hid atT
  have AtL := Lib.hid atL
  have Hll := Lib.hid hll
  have Hr := Lib.hid hr
  have Ht := Lib.hid ht
  have Hg := Lib.hid hg
  have GN := Lib.hid gN
  have GT := Lib.hid gT
  have GL := Lib.hid gL
  have HxL := Lib.hid hxL
  have Hal := Lib.hid hal
  have Hbl := Lib.hid hbl
  clear atN atT atL hll hr ht hg hxN hxT hxL hd gN gT gL hal hbl
  obtain ⟨rB0, rB1⟩ := rB
  go_enter Try.func6, Try.ntmps6
  go_wp2_with fail
  refine (awake_true _).mono ?_
  rintro e w1 ⟨rfl, hb1⟩
  have z1 := hb1.size
  go_wp2_with fail
  refine (qN _).mono ?_
  rintro e w2 ⟨A2, c2, rfl, o2, hb2⟩
  have z2 := hb2.size
  go_wp2_with fail
  refine (qT _).mono ?_
  rintro e w3 ⟨A3, c3, rfl, o3, hb3⟩
  have z3 := hb3.size
  go_wp2_with fail
  refine (putList_any A0 k0 c0 l _ _ (((hl.call hb1 (Nat.le_refl _)).call hb2 z1).call hb3 (by omega)) (by omega) (by omega) hx).mono ?_
  rw [HxL.out]
  rintro e w4 ⟨A4, c4, rfl, o4, hb4⟩
  have z4 := hb4.size
  have o2 := own_below (own_below o2 hb3) hb4
  have o3 := own_below o3 hb4
  have b4 := bel_call (bel_call (bel_call hb1 hb2) hb3) hb4
  have hl := hl.call b4 (Nat.le_refl _)
  have ha := ha.call b4 (Nat.le_refl _)
  have hb := hb.call b4 (Nat.le_refl _)
  go_wp2_with fail
  refine (copyBytes_any A1 k1 c1 ah _ _ ha (by first | omega | (simp; omega)) (by omega)).mono ?_
  rintro e wc1 ⟨Ac1, cc1, rfl, oc1, hc1⟩
  have zc1 := hc1.size
  try simp only [World.size_alloc] at zc1
  go_wp2_with (first
    | (at_builtin; refine wpList_append_shows _ rfl _ _ 23 rfl _ 5 i0 (.int .u8 0) 1 1 Try.underlying23 hi hz0 hz1 hz2 rfl (by decide) (.slice Ac1 k1 cc1) k1 (U8 ah) rfl oc1 _ A2 _ c2 (U8 xN) rfl (Shows.of_own (own_below o2 hc1)) (nums_one _ _) (by unfold maxLen; omega) (by omega) hc1.size ?_; intro Ad1 cd1 wd1 od1 gd1; have bd1 := bel_grown hc1 gd1 (fun g hg => (oc1.lt g hg).1))
    | (at_builtin; refine wpList_append_shows _ rfl _ _ 23 rfl _ 5 i0 (.int .u8 0) 1 1 Try.underlying23 hi hz0 hz1 hz2 rfl (by decide) (.slice Ad1 (k1 + xN.length) cd1) _ _ rfl od1 _ Ab kb cb (U8 bh) rfl (hb.call bd1 (by first | omega | (simp; omega))) (nums_one _ _) (by unfold maxLen; omega) (by omega) bd1.size ?_; intro Ae1 ce1 we1 oe1 ge1; have be1 := bel_grown bd1 ge1 (fun g hg => (od1.lt g hg).1)))
  rw [u8_app, u8_app, List.append_assoc] at oe1
  obtain ⟨_, _, e2, me1, me1'⟩ := own_form oe1
  injection e2 with e2 e3 e4; subst e2; subst e4
  have ze1 := be1.size
  try simp only [World.size_alloc] at ze1
  go_wp2_with fail
  refine (get_is AtN.out (Shows.of_own oe1) (by unfold maxLen; omega) (Nat.le_refl _) me1 (all_app hax (all_app pN hbx)) (by omega) (by omega)).mono ?_
  rintro e wf1 ⟨rfl, hf1⟩
  have zf1 := hf1.size
  have tw1 := bel_alloc (bel_call be1 hf1) (.cells #[.int .i64 0, .int .i64 0] 37)
  have o3 := own_below o3 tw1
  have o4 := own_below o4 tw1
  have hl := hl.call tw1 (by omega)
  have ha := ha.call tw1 (by omega)
  have hb := hb.call tw1 (by omega)
  have u1 := Block.new wf1 37 [.int .i64 0, .int .i64 0]
  go_wp2_with fail
  refine (copyBytes_any A1 k1 c1 ah _ _ ha (by first | omega | (simp; omega)) (by omega)).mono ?_
  rintro e wc2 ⟨Ac2, cc2, rfl, oc2, hc2⟩
  have zc2 := hc2.size
  try simp only [World.size_alloc] at zc2
  go_wp2_with (first
    | (at_builtin; refine wpList_append_shows _ rfl _ _ 23 rfl _ 5 i0 (.int .u8 0) 1 1 Try.underlying23 hi hz0 hz1 hz2 rfl (by decide) (.slice Ac2 k1 cc2) k1 (U8 ah) rfl oc2 _ A3 _ c3 (U8 xT) rfl (Shows.of_own (own_below o3 hc2)) (nums_one _ _) (by unfold maxLen; omega) (by omega) hc2.size ?_; intro Ad2 cd2 wd2 od2 gd2; have bd2 := bel_grown hc2 gd2 (fun g hg => (oc2.lt g hg).1))
    | (at_builtin; refine wpList_append_shows _ rfl _ _ 23 rfl _ 5 i0 (.int .u8 0) 1 1 Try.underlying23 hi hz0 hz1 hz2 rfl (by decide) (.slice Ad2 (k1 + xT.length) cd2) _ _ rfl od2 _ Ab kb cb (U8 bh) rfl (hb.call bd2 (by first | omega | (simp; omega))) (nums_one _ _) (by unfold maxLen; omega) (by omega) bd2.size ?_; intro Ae2 ce2 we2 oe2 ge2; have be2 := bel_grown bd2 ge2 (fun g hg => (od2.lt g hg).1)))
  rw [u8_app, u8_app, List.append_assoc] at oe2
  obtain ⟨_, _, e2, me2, me2'⟩ := own_form oe2
  injection e2 with e2 e3 e4; subst e2; subst e4
  have ze2 := be2.size
  try simp only [World.size_alloc] at ze2
  go_wp2_with fail
  refine (text_is AtT.out (Shows.of_own oe2) (Nat.le_refl _) (by omega) me2 (all_app hax (all_app pT hbx)) (by omega) (by omega)).mono ?_
  rw [str_nums]
  rintro e wf2 ⟨rfl, hf2⟩
  have zf2 := hf2.size
  have tw2 := bel_alloc (bel_call be2 hf2) (.cells #[.int .i64 0, .int .i64 0] 37)
  have o4 := own_below o4 tw2
  have hl := hl.call tw2 (by first | omega | (simp; omega))
  have ha := ha.call tw2 (by first | omega | (simp; omega))
  have hb := hb.call tw2 (by first | omega | (simp; omega))
  have u1 := u1.call tw2
  have u2 := Block.new wf2 37 [.int .i64 0, .int .i64 0]
  go_wp2_with fail
  refine (copyBytes_any A1 k1 c1 ah _ _ ha (by first | omega | (simp; omega)) (by omega)).mono ?_
  rintro e wc3 ⟨Ac3, cc3, rfl, oc3, hc3⟩
  have zc3 := hc3.size
  try simp only [World.size_alloc] at zc3
  go_wp2_with (first
    | (at_builtin; refine wpList_append_shows _ rfl _ _ 23 rfl _ 5 i0 (.int .u8 0) 1 1 Try.underlying23 hi hz0 hz1 hz2 rfl (by decide) (.slice Ac3 k1 cc3) k1 (U8 ah) rfl oc3 _ A4 _ c4 (U8 xL) rfl (Shows.of_own (own_below o4 hc3)) (nums_one _ _) (by unfold maxLen; omega) (by omega) hc3.size ?_; intro Ad3 cd3 wd3 od3 gd3; have bd3 := bel_grown hc3 gd3 (fun g hg => (oc3.lt g hg).1))
    | (at_builtin; refine wpList_append_shows _ rfl _ _ 23 rfl _ 5 i0 (.int .u8 0) 1 1 Try.underlying23 hi hz0 hz1 hz2 rfl (by decide) (.slice Ad3 (k1 + xL.length) cd3) _ _ rfl od3 _ Ab kb cb (U8 bh) rfl (hb.call bd3 (by first | omega | (simp; omega))) (nums_one _ _) (by unfold maxLen; omega) (by omega) bd3.size ?_; intro Ae3 ce3 we3 oe3 ge3; have be3 := bel_grown bd3 ge3 (fun g hg => (od3.lt g hg).1)))
  rw [u8_app, u8_app, List.append_assoc] at oe3
  obtain ⟨_, _, e2, me3, me3'⟩ := own_form oe3
  injection e2 with e2 e3 e4; subst e2; subst e4
  have ze3 := be3.size
  try simp only [World.size_alloc] at ze3
  go_wp2_with fail
  refine (list_is AtL.out (Shows.of_own oe3) (Nat.le_refl _) (by omega) me3 (all_app hax (all_app pL hbx)) (by omega) (by omega)).mono ?_
  rintro e wf3 ⟨A8, c8, rfl, o8, hf3⟩
  have zf3 := hf3.size
  have tw3 := bel_call be3 hf3
  have u1 := u1.call tw3
  have u2 := u2.call tw3
  have hl := hl.call tw3 (by first | omega | (simp; omega))
  have hb := hb.call tw3 (by first | omega | (simp; omega))
  have y1 := u1.lt
  have y2 := u2.lt
  have v1 := u1.cell 0
  have v2 := u2.cell 0
  simp only [List.getElem?_cons_zero] at v1 v2
  have hsame := sameInts_eq (w := wf3.alloc (.cells #[.int .i64 0, .int .i64 0] 37)) (c := c8) (d := c0) ((Shows.of_own o8).alloc (Nat.le_refl _) _) (hl.alloc (by first | omega | (simp; omega)) _) rfl (by rw [Hll.out]; omega)
  go_wp2_with fail
  refine hsame.mono ?_
  rintro e ws ⟨rfl, ms, rfl⟩
  have hb := (hb.alloc (by first | omega | (simp; omega)) (.cells #[.int .i64 0, .int .i64 0] 37)).drewN ms
  go_wp2_with fail
  refine (get_is Hr.out hb (by unfold maxLen; omega) (by first | omega | (simp; omega)) hbc hbx (by omega) (by omega)).mono ?_
  rintro e wg1 ⟨rfl, hg1⟩
  have zg1 := hg1.size
  replace zg1 : wf3.heap.size + 1 ≤ wg1.heap.size := by simpa using zg1
  have tg1 := bel_alloc hg1 (.cells #[.int .i64 r2, .int .i64 r3] 37)
  have hb := hb.call tg1 (by first | omega | (simp; omega))
  go_wp2_with fail
  refine (text_is Ht.out hb (by first | omega | (simp; omega)) (by omega) hbc hbx (by omega) (by omega)).mono ?_
  rintro e wg2 ⟨rfl, hg2⟩
  obtain ⟨ug, zg2⟩ := new_block (cs := [_, _]) hg2
  have cg0 := ug.cell 0
  simp only [List.getElem?_cons_zero] at cg0
  have hbz := (hb.call hg2 (by first | omega | (simp; omega))).alloc (by first | omega | (simp; omega)) (.cells #[.int .i64 t2, .int .i64 t3] 37)
  have bel13 := bel_alloc (bel_call (bel_call (w := w) (bel_drewN (bel_alloc (bel_call (bel_call (bel_alloc (bel_call (bel_call (bel_alloc (bel_call (bel_call b4 be1) hf1) _) be2) hf2) _) be3) hf3) _) ms) tg1) hg2) (.cells #[.int .i64 t2, .int .i64 t3] 37)
  clear u1 u2 y1 y2 v1 v2 hsame tw1 tw2 tw3 be1 be2 be3 hf1 hf2 hf3 bd1 bd2 bd3 hc1 hc2 hc3 o2 o3 o4 oc1 oc2 oc3 od1 od2 od3 oe1 oe2 oe3 hl ha gd1 gd2 gd3 ge1 ge2 ge3 o8
  go_upto_region 13 with fail
  go_cut [192] (fun s wx => s = .bool false ∧ Shows wx w.heap.size 1 Ab kb (U8 bh) ∧ Below w.heap.size w wx)
  case first =>
    obtain ⟨wz, hwz⟩ : ∃ wz, wz = wg2.alloc (.cells #[.int .i64 t2, .int .i64 t3] 37) := ⟨_, rfl⟩
    have cz1 : (wg2.alloc (.cells #[.int .i64 t2, .int .i64 t3] 37)).cell? ⟨wg1.heap.size, 0, none⟩ = some (.int .i64 r2) := (World.cell?_alloc_lt _ _ _ zg2).trans cg0
    have cz2 : (wg2.alloc (.cells #[.int .i64 t2, .int .i64 t3] 37)).cell? ⟨wg2.heap.size, 0, none⟩ = some (.int .i64 t2) := (World.cell?_alloc_new _ _ _ _).trans rfl
    have yz1 : wg1.heap.size < (wg2.alloc (.cells #[.int .i64 t2, .int .i64 t3] 37)).heap.size := by simp; omega
    have yz2 : wg2.heap.size < (wg2.alloc (.cells #[.int .i64 t2, .int .i64 t3] 37)).heap.size := by simp
    rw [← hwz] at cz1 cz2 yz1 yz2 hbz bel13 ⊢
    have yb := bel13.size
    clear hwz cg0 ug AtN AtT AtL qN qT pN pT pL HxL Hll hax l1 l2 l3 l4 h1 h2 h3 hi hz0 hz1 hz2 hx Hal me1 me2 me3 me1' me2' me3' ze1 ze2 ze3 zc1 zc2 zc3 zf1 zf2 zf3 b4 hb1 hb2 hb3 hb4 hg1 hg2 tg1 z1 z2 z3 z4
    by_cases e1 : r2 = 0
    · obtain ⟨a1, m1, ha1, hm1, hr1, hp1⟩ := GN.out e1
      obtain rfl : a1 = 0 := by omega
      clear ha1
      rw [Nat.zero_add] at hm1 hr1
      rw [List.drop_zero] at hp1
      have Hp1 := Lib.hid (show sameB (Oct.putN (Oct.zig r0)) (bh.take m1) = true from decide_eq_true hp1)
      have kk1 : ∀ w, (Instr.slice 23 (.slice Ab kb cb) none (some (.int .i64 r1)) none).run Try.prog w = .ok (.slice Ab m1 cb) w := fun w => by
        rw [hr1]; exact cut_to (P := Try.prog) 1 Try.underlying23 size_u8 Ab kb cb m1 (by have := Hbl.out; omega) w
      have Hm1 := Lib.hid hm1
      clear hp1 hr1 hm1
      subst e1
      by_cases e2 : t2 = 0
      · obtain ⟨m2, hr2, hm2, hp2, hq2⟩ := GT.out e2
        have Hp2 := Lib.hid (show sameB (putT (strOfNums t0)) (bh.take m2) = true from decide_eq_true hp2)
        have kk2 : ∀ w, (Instr.slice 23 (.slice Ab kb cb) none (some (.int .i64 t1)) none).run Try.prog w = .ok (.slice Ab m2 cb) w := fun w => by
          rw [hr2]; exact cut_to (P := Try.prog) 1 Try.underlying23 size_u8 Ab kb cb m2 (by have := Hbl.out; omega) w
        have Hm2 := Lib.hid hm2
        have hz2 : (strOfNums t0).size ≤ 65536 := by
          have e := congrArg List.length hp2
          simp only [putT, List.length_append, nums_len, List.length_take] at e
          have := Hbl.out; omega
        clear hp2 hr2 hm2
        subst e2
        have Hbx := Lib.hid hbx
        have HB := Lib.hid hbz
        have HBel := Lib.hid bel13
        clear hbx hbz bel13
        go_region_held3 (fun w' => w'.cell? ⟨wg1.heap.size, 0, none⟩ = some (.int .i64 0) ∧ w'.cell? ⟨wg2.heap.size, 0, none⟩ = some (.int .i64 0)) (go_keep) (first
          | (go_at_call 12; refine (put_any r0 _ rB0 rB1).mono ?_; rintro e wp ⟨Ap, cp, rfl, op, hp⟩; have dp1 := (hp.cell (p := ⟨wg1.heap.size, 0, none⟩) yz1).trans cz1; have dp2 := (hp.cell (p := ⟨wg2.heap.size, 0, none⟩) yz2).trans cz2; have bp := HB.out.drew.below (hp.mono yb); have zp := hp.size)
          | (go_at_call 15; refine (putText_any (strOfNums t0) _ hz2).mono ?_; rintro e wq ⟨Aq, cq, rfl, oq, hq⟩; have dq1 := (hq.cell (p := ⟨wg1.heap.size, 0, none⟩) (Nat.lt_of_lt_of_le yz1 zp)).trans dp1; have dq2 := (hq.cell (p := ⟨wg2.heap.size, 0, none⟩) (Nat.lt_of_lt_of_le yz2 zp)).trans dp2; have bq := bp.call hq (Nat.le_trans yb zp))
          | (go_at_call_of 13 (Value.slice Ab m1 cb); refine (same_is Hp1.out (Shows.of_own op) (take8 bp (by have := Hm1.out; have := Hbl.out; omega)) (Oct.putN_bytes _) (take_mem Hbx.out)).mono ?_; rintro e wr ⟨rfl, rfl⟩)
          | (go_at_call_of 13 (Value.slice Ab m2 cb); refine (same_is Hp2.out (Shows.of_own oq) (take8 bq (by have := Hm2.out; have := Hbl.out; omega)) (putT_bytes _) (take_mem Hbx.out)).mono ?_; rintro e wr ⟨rfl, rfl⟩))
        go_wp2_with fail
        go_meet
        exact ⟨rfl, bq, bel_call (bel_call HBel.out.drew hp) hq⟩
      · have f2 : (t2 == 0) = false := by simpa using e2
        have Hbx := Lib.hid hbx
        have HB := Lib.hid hbz
        have HBel := Lib.hid bel13
        clear e2 hbx hbz bel13
        refine wp_region_held_drew (S := (fun w' => w'.cell? ⟨wg1.heap.size, 0, none⟩ = some (.int .i64 0) ∧ w'.cell? ⟨wg2.heap.size, 0, none⟩ = some (.int .i64 t2))) (by kernel_rfl) ?_ (fun hHeld => ?_)
        · exact ⟨cz1, cz2⟩
        refine wpAnyH_take_now (i := 0) (oi := ?_) (v := ?_) ?_ (by kernel_rfl) (by kernel_rfl) (by kernel_rfl) ?_ ?_ ?_ hHeld ?_
        rotate_left 2
        · simp only [List.getElem?_toArray, List.getElem?_cons_zero]; rfl
        · exact fun _ _ _ h => h
        · kernel_rfl
        · (intro w hSw; (try dsimp only at hSw); go_simp; try with_reducible rfl)
        (try simp only [Act.put, List.setIfInBounds_toArray, List.set_cons_zero, List.set_cons_succ])
        refine wpAnyH_take_now (i := 1) (oi := ?_) (v := ?_) ?_ (by kernel_rfl) (by kernel_rfl) (by kernel_rfl) ?_ ?_ ?_ hHeld ?_
        rotate_left 2
        · simp only [List.getElem?_toArray, List.getElem?_cons_succ, List.getElem?_cons_zero]; rfl
        · exact fun _ _ _ h => h
        · kernel_rfl
        · (intro w hSw; (try dsimp only at hSw); go_simp; try with_reducible rfl)
        (try simp only [Act.put, List.setIfInBounds_toArray, List.set_cons_zero, List.set_cons_succ])
        refine wpAnyH_take_now (i := 2) (oi := ?_) (v := ?_) ?_ (by kernel_rfl) (by kernel_rfl) (by kernel_rfl) ?_ ?_ ?_ hHeld ?_
        rotate_left 2
        · simp only [List.getElem?_toArray, List.getElem?_cons_succ, List.getElem?_cons_zero]; rfl
        · exact fun _ _ _ h => h
        · kernel_rfl
        · (intro w hSw; (try dsimp only at hSw); go_simp; try with_reducible rfl)
        (try simp only [Act.put, List.setIfInBounds_toArray, List.set_cons_zero, List.set_cons_succ])
        refine wpAnyH_take_now (i := 3) (oi := ?_) (v := ?_) ?_ (by kernel_rfl) (by kernel_rfl) (by kernel_rfl) ?_ ?_ ?_ hHeld ?_
        rotate_left 2
        · simp only [List.getElem?_toArray, List.getElem?_cons_succ, List.getElem?_cons_zero]; rfl
        · exact fun _ _ _ h => h
        · kernel_rfl
        · (intro w hSw; (try dsimp only at hSw); go_simp; try with_reducible rfl)
        (try simp only [Act.put, List.setIfInBounds_toArray, List.set_cons_zero, List.set_cons_succ])
        refine wpAnyH_take_now (i := 4) (oi := ?_) (v := ?_) ?_ (by kernel_rfl) (by kernel_rfl) (by kernel_rfl) ?_ ?_ ?_ hHeld ?_
        rotate_left 2
        · simp only [List.getElem?_toArray, List.getElem?_cons_succ, List.getElem?_cons_zero]; rfl
        · exact fun _ _ _ h => h
        · kernel_rfl
        · (intro w hSw; (try dsimp only at hSw); go_simp; try with_reducible rfl)
        (try simp only [Act.put, List.setIfInBounds_toArray, List.set_cons_zero, List.set_cons_succ])
        refine wpAnyH_take_now (i := 6) (oi := ?_) (v := ?_) ?_ (by kernel_rfl) (by kernel_rfl) (by kernel_rfl) ?_ ?_ ?_ hHeld ?_
        rotate_left 2
        · simp only [List.getElem?_toArray, List.getElem?_cons_succ, List.getElem?_cons_zero]; rfl
        · exact fun _ _ _ h => h
        · kernel_rfl
        · (intro w hSw; (try dsimp only at hSw); go_simp; try with_reducible rfl)
        (try simp only [Act.put, List.setIfInBounds_toArray, List.set_cons_zero, List.set_cons_succ])
        refine wpAnyH_take_now (i := 7) (oi := ?_) (v := ?_) ?_ (by kernel_rfl) (by kernel_rfl) (by kernel_rfl) ?_ ?_ ?_ hHeld ?_
        rotate_left 2
        · simp only [List.getElem?_toArray, List.getElem?_cons_succ, List.getElem?_cons_zero]; rfl
        · exact fun _ _ _ h => h
        · kernel_rfl
        · (intro w hSw; (try dsimp only at hSw); go_simp; try with_reducible rfl)
        (try simp only [Act.put, List.setIfInBounds_toArray, List.set_cons_zero, List.set_cons_succ])
        refine wpAnyH_take_now (i := 8) (oi := ?_) (v := ?_) ?_ (by kernel_rfl) (by kernel_rfl) (by kernel_rfl) ?_ ?_ ?_ hHeld ?_
        rotate_left 2
        · simp only [List.getElem?_toArray, List.getElem?_cons_succ, List.getElem?_cons_zero]; rfl
        · exact fun _ _ _ h => h
        · kernel_rfl
        · (intro w hSw; (try dsimp only at hSw); go_simp; try with_reducible rfl)
        (try simp only [Act.put, List.setIfInBounds_toArray, List.set_cons_zero, List.set_cons_succ])
        refine wpAnyH_ready (rs := [5]) (by kernel_rfl) (by simp) ?_
        refine AllReadyH.cons (o := ?_) ?_ (fun K hK => ?_) AllReadyH.nil
        rotate_left 1
        · simp only [List.getElem?_toArray, List.getElem?_cons_succ, List.getElem?_cons_zero]; rfl
        go_simp
        (go_at_call 12; refine (put_any r0 _ rB0 rB1).mono ?_; rintro e wp ⟨Ap, cp, rfl, op, hp⟩; have dp1 := (hp.cell (p := ⟨wg1.heap.size, 0, none⟩) yz1).trans cz1; have dp2 := (hp.cell (p := ⟨wg2.heap.size, 0, none⟩) yz2).trans cz2; have bp := HB.out.drew.below (hp.mono yb); have zp := hp.size)
        refine hK.out _ _ ?_ (fun hHeld => ?_)
        · first | exact ⟨dp1, dp2⟩ | go_keep
        clear hK K
        (try simp only [Act.put, List.setIfInBounds_toArray, List.set_cons_zero, List.set_cons_succ])
        refine wpAnyH_ready (rs := [9]) (by kernel_rfl) (by simp) ?_
        refine AllReadyH.cons (o := ?_) ?_ (fun K hK => ?_) AllReadyH.nil
        rotate_left 1
        · simp only [List.getElem?_toArray, List.getElem?_cons_succ, List.getElem?_cons_zero]; rfl
        go_simp
        (go_at_call_of 13 (Value.slice Ab m1 cb); refine (same_is Hp1.out (Shows.of_own op) (take8 bp (by have := Hm1.out; have := Hbl.out; omega)) (Oct.putN_bytes _) (take_mem Hbx.out)).mono ?_; rintro e wr ⟨rfl, rfl⟩)
        refine hK.out _ _ ?_ (fun hHeld => ?_)
        · first | exact ⟨dp1, dp2⟩ | go_keep
        clear hK K
        (try simp only [Act.put, List.setIfInBounds_toArray, List.set_cons_zero, List.set_cons_succ])
        refine wpAnyH_take_now (i := 10) (oi := ?_) (v := ?_) ?_ (by kernel_rfl) (by kernel_rfl) (by kernel_rfl) ?_ ?_ ?_ hHeld ?_
        rotate_left 2
        · simp only [List.getElem?_toArray, List.getElem?_cons_succ, List.getElem?_cons_zero]; rfl
        · exact fun _ _ _ h => h
        · kernel_rfl
        · (intro w hSw; (try dsimp only at hSw); go_simp; try with_reducible rfl)
        (try simp only [Act.put, List.setIfInBounds_toArray, List.set_cons_zero, List.set_cons_succ])
        refine wpAnyH_take_now (i := 11) (oi := ?_) (v := ?_) ?_ (by kernel_rfl) (by kernel_rfl) (by kernel_rfl) ?_ ?_ ?_ hHeld ?_
        rotate_left 2
        · simp only [List.getElem?_toArray, List.getElem?_cons_succ, List.getElem?_cons_zero]; rfl
        · exact fun _ _ _ h => h
        · kernel_rfl
        · (intro w hSw; (try dsimp only at hSw); go_simp; try with_reducible rfl)
        (try simp only [Act.put, List.setIfInBounds_toArray, List.set_cons_zero, List.set_cons_succ])
        refine wpAnyH_take_now (i := 12) (oi := ?_) (v := ?_) ?_ (by kernel_rfl) (by kernel_rfl) (by kernel_rfl) ?_ ?_ ?_ hHeld ?_
        rotate_left 2
        · simp only [List.getElem?_toArray, List.getElem?_cons_succ, List.getElem?_cons_zero]; rfl
        · exact fun _ _ _ h => h
        · kernel_rfl
        · (intro w hSw; (try dsimp only at hSw); go_simp; try with_reducible rfl)
        (try simp only [Act.put, List.setIfInBounds_toArray, List.set_cons_zero, List.set_cons_succ])
        refine wpAnyH_take_now (i := 13) (oi := ?_) (v := ?_) ?_ (by kernel_rfl) (by kernel_rfl) (by kernel_rfl) ?_ ?_ ?_ hHeld ?_
        rotate_left 2
        · simp only [List.getElem?_toArray, List.getElem?_cons_succ, List.getElem?_cons_zero]; rfl
        · exact fun _ _ _ h => h
        · kernel_rfl
        · (intro w hSw; (try dsimp only at hSw); go_simp; try with_reducible rfl)
        (try simp only [Act.put, List.setIfInBounds_toArray, List.set_cons_zero, List.set_cons_succ])
        refine wpAnyH_take_now (i := 14) (oi := ?_) (v := ?_) ?_ (by kernel_rfl) (by kernel_rfl) (by kernel_rfl) ?_ ?_ ?_ hHeld ?_
        rotate_left 2
        · simp only [List.getElem?_toArray, List.getElem?_cons_succ, List.getElem?_cons_zero]; rfl
        · exact fun _ _ _ h => h
        · kernel_rfl
        · (intro w hSw; (try dsimp only at hSw); go_simp; try with_reducible rfl)
        (try simp only [Act.put, List.setIfInBounds_toArray, List.set_cons_zero, List.set_cons_succ])
        refine wpAnyH_take_now (i := 15) (oi := ?_) (v := ?_) ?_ (by kernel_rfl) (by kernel_rfl) (by kernel_rfl) ?_ ?_ ?_ hHeld ?_
        rotate_left 2
        · simp only [List.getElem?_toArray, List.getElem?_cons_succ, List.getElem?_cons_zero]; rfl
        · exact fun _ _ _ h => h
        · kernel_rfl
        · (intro w hSw; (try dsimp only at hSw); go_simp; try with_reducible rfl)
        (try simp only [Act.put, List.setIfInBounds_toArray, List.set_cons_zero, List.set_cons_succ])
        refine wpAnyH_take_now (i := 16) (oi := ?_) (v := ?_) ?_ (by kernel_rfl) (by kernel_rfl) (by kernel_rfl) ?_ ?_ ?_ hHeld ?_
        rotate_left 2
        · simp only [List.getElem?_toArray, List.getElem?_cons_succ, List.getElem?_cons_zero]; rfl
        · exact fun _ _ _ h => h
        · kernel_rfl
        · (intro w hSw; (try dsimp only at hSw); go_simp; try with_reducible rfl)
        (try simp only [Act.put, List.setIfInBounds_toArray, List.set_cons_zero, List.set_cons_succ])
        refine wpAnyH_skip (i := 17) (oi := ?_) ?_ (by kernel_rfl) (by kernel_rfl) (by kernel_rfl) ?_ ?_ hHeld ?_
        rotate_left 1
        · simp only [List.getElem?_toArray, List.getElem?_cons_succ, List.getElem?_cons_zero]; rfl
        · exact fun _ _ _ h => h
        · kernel_rfl
        (try simp only [Act.put, List.setIfInBounds_toArray, List.set_cons_zero, List.set_cons_succ])
        refine wpAnyH_skip (i := 18) (oi := ?_) ?_ (by kernel_rfl) (by kernel_rfl) (by kernel_rfl) ?_ ?_ hHeld ?_
        rotate_left 1
        · simp only [List.getElem?_toArray, List.getElem?_cons_succ, List.getElem?_cons_zero]; rfl
        · exact fun _ _ _ h => h
        · kernel_rfl
        (try simp only [Act.put, List.setIfInBounds_toArray, List.set_cons_zero, List.set_cons_succ])
        refine wpAnyH_skip (i := 19) (oi := ?_) ?_ (by kernel_rfl) (by kernel_rfl) (by kernel_rfl) ?_ ?_ hHeld ?_
        rotate_left 1
        · simp only [List.getElem?_toArray, List.getElem?_cons_succ, List.getElem?_cons_zero]; rfl
        · exact fun _ _ _ h => h
        · kernel_rfl
        (try simp only [Act.put, List.setIfInBounds_toArray, List.set_cons_zero, List.set_cons_succ])
        refine wpAnyH_skip (i := 20) (oi := ?_) ?_ (by kernel_rfl) (by kernel_rfl) (by kernel_rfl) ?_ ?_ hHeld ?_
        rotate_left 1
        · simp only [List.getElem?_toArray, List.getElem?_cons_succ, List.getElem?_cons_zero]; rfl
        · exact fun _ _ _ h => h
        · kernel_rfl
        (try simp only [Act.put, List.setIfInBounds_toArray, List.set_cons_zero, List.set_cons_succ])
        refine wpAnyH_skip (i := 21) (oi := ?_) ?_ (by kernel_rfl) (by kernel_rfl) (by kernel_rfl) ?_ ?_ hHeld ?_
        rotate_left 1
        · simp only [List.getElem?_toArray, List.getElem?_cons_succ, List.getElem?_cons_zero]; rfl
        · exact fun _ _ _ h => h
        · kernel_rfl
        (try simp only [Act.put, List.setIfInBounds_toArray, List.set_cons_zero, List.set_cons_succ])
        refine wpAnyH_skip (i := 22) (oi := ?_) ?_ (by kernel_rfl) (by kernel_rfl) (by kernel_rfl) ?_ ?_ hHeld ?_
        rotate_left 1
        · simp only [List.getElem?_toArray, List.getElem?_cons_succ, List.getElem?_cons_zero]; rfl
        · exact fun _ _ _ h => h
        · kernel_rfl
        (try simp only [Act.put, List.setIfInBounds_toArray, List.set_cons_zero, List.set_cons_succ])
        refine wpAnyH_skip (i := 23) (oi := ?_) ?_ (by kernel_rfl) (by kernel_rfl) (by kernel_rfl) ?_ ?_ hHeld ?_
        rotate_left 1
        · simp only [List.getElem?_toArray, List.getElem?_cons_succ, List.getElem?_cons_zero]; rfl
        · exact fun _ _ _ h => h
        · kernel_rfl
        (try simp only [Act.put, List.setIfInBounds_toArray, List.set_cons_zero, List.set_cons_succ])
        refine wpAnyH_take_now (i := 24) (oi := ?_) (v := ?_) ?_ (by kernel_rfl) (by kernel_rfl) (by kernel_rfl) ?_ ?_ ?_ hHeld ?_
        rotate_left 2
        · simp only [List.getElem?_toArray, List.getElem?_cons_succ, List.getElem?_cons_zero]; rfl
        · exact fun _ _ _ h => h
        · kernel_rfl
        · (intro w hSw; (try dsimp only at hSw); go_simp; try with_reducible rfl)
        (try simp only [Act.put, List.setIfInBounds_toArray, List.set_cons_zero, List.set_cons_succ])
        refine wpAnyH_take_now (i := 25) (oi := ?_) (v := ?_) ?_ (by kernel_rfl) (by kernel_rfl) (by kernel_rfl) ?_ ?_ ?_ hHeld ?_
        rotate_left 2
        · simp only [List.getElem?_toArray, List.getElem?_cons_succ, List.getElem?_cons_zero]; rfl
        · exact fun _ _ _ h => h
        · kernel_rfl
        · (intro w hSw; (try dsimp only at hSw); go_simp; try with_reducible rfl)
        (try simp only [Act.put, List.setIfInBounds_toArray, List.set_cons_zero, List.set_cons_succ])
        refine wpAnyH_done (by kernel_rfl) ?_ _
        go_wp2_with fail
        go_meet
        exact ⟨rfl, bp, bel_call HBel.out.drew hp⟩
    · by_cases e2 : t2 = 0
      · obtain ⟨m2, hr2, hm2, hp2, hq2⟩ := GT.out e2
        have Hp2 := Lib.hid (show sameB (putT (strOfNums t0)) (bh.take m2) = true from decide_eq_true hp2)
        have kk2 : ∀ w, (Instr.slice 23 (.slice Ab kb cb) none (some (.int .i64 t1)) none).run Try.prog w = .ok (.slice Ab m2 cb) w := fun w => by
          rw [hr2]; exact cut_to (P := Try.prog) 1 Try.underlying23 size_u8 Ab kb cb m2 (by have := Hbl.out; omega) w
        have Hm2 := Lib.hid hm2
        have hz2 : (strOfNums t0).size ≤ 65536 := by
          have e := congrArg List.length hp2
          simp only [putT, List.length_append, nums_len, List.length_take] at e
          have := Hbl.out; omega
        clear hp2 hr2 hm2 hq2
        subst e2
        have f1 : (r2 == 0) = false := by simpa using e1
        have Hbx := Lib.hid hbx
        have HB := Lib.hid hbz
        have HBel := Lib.hid bel13
        clear e1 hbx hbz bel13
        refine wp_region_held_drew (S := (fun w' => w'.cell? ⟨wg1.heap.size, 0, none⟩ = some (.int .i64 r2) ∧ w'.cell? ⟨wg2.heap.size, 0, none⟩ = some (.int .i64 0))) (by kernel_rfl) ?_ (fun hHeld => ?_)
        · exact ⟨cz1, cz2⟩
        refine wpAnyH_take_now (i := 0) (oi := ?_) (v := ?_) ?_ (by kernel_rfl) (by kernel_rfl) (by kernel_rfl) ?_ ?_ ?_ hHeld ?_
        rotate_left 2
        · simp only [List.getElem?_toArray, List.getElem?_cons_zero]; rfl
        · exact fun _ _ _ h => h
        · kernel_rfl
        · (intro w hSw; (try dsimp only at hSw); go_simp; try with_reducible rfl)
        (try simp only [Act.put, List.setIfInBounds_toArray, List.set_cons_zero, List.set_cons_succ])
        refine wpAnyH_take_now (i := 1) (oi := ?_) (v := ?_) ?_ (by kernel_rfl) (by kernel_rfl) (by kernel_rfl) ?_ ?_ ?_ hHeld ?_
        rotate_left 2
        · simp only [List.getElem?_toArray, List.getElem?_cons_succ, List.getElem?_cons_zero]; rfl
        · exact fun _ _ _ h => h
        · kernel_rfl
        · (intro w hSw; (try dsimp only at hSw); go_simp; try with_reducible rfl)
        (try simp only [Act.put, List.setIfInBounds_toArray, List.set_cons_zero, List.set_cons_succ])
        refine wpAnyH_take_now (i := 2) (oi := ?_) (v := ?_) ?_ (by kernel_rfl) (by kernel_rfl) (by kernel_rfl) ?_ ?_ ?_ hHeld ?_
        rotate_left 2
        · simp only [List.getElem?_toArray, List.getElem?_cons_succ, List.getElem?_cons_zero]; rfl
        · exact fun _ _ _ h => h
        · kernel_rfl
        · (intro w hSw; (try dsimp only at hSw); go_simp; try with_reducible rfl)
        (try simp only [Act.put, List.setIfInBounds_toArray, List.set_cons_zero, List.set_cons_succ])
        refine wpAnyH_take_now (i := 3) (oi := ?_) (v := ?_) ?_ (by kernel_rfl) (by kernel_rfl) (by kernel_rfl) ?_ ?_ ?_ hHeld ?_
        rotate_left 2
        · simp only [List.getElem?_toArray, List.getElem?_cons_succ, List.getElem?_cons_zero]; rfl
        · exact fun _ _ _ h => h
        · kernel_rfl
        · (intro w hSw; (try dsimp only at hSw); go_simp; try with_reducible rfl)
        (try simp only [Act.put, List.setIfInBounds_toArray, List.set_cons_zero, List.set_cons_succ])
        refine wpAnyH_skip (i := 4) (oi := ?_) ?_ (by kernel_rfl) (by kernel_rfl) (by kernel_rfl) ?_ ?_ hHeld ?_
        rotate_left 1
        · simp only [List.getElem?_toArray, List.getElem?_cons_succ, List.getElem?_cons_zero]; rfl
        · exact fun _ _ _ h => h
        · kernel_rfl
        (try simp only [Act.put, List.setIfInBounds_toArray, List.set_cons_zero, List.set_cons_succ])
        refine wpAnyH_skip (i := 5) (oi := ?_) ?_ (by kernel_rfl) (by kernel_rfl) (by kernel_rfl) ?_ ?_ hHeld ?_
        rotate_left 1
        · simp only [List.getElem?_toArray, List.getElem?_cons_succ, List.getElem?_cons_zero]; rfl
        · exact fun _ _ _ h => h
        · kernel_rfl
        (try simp only [Act.put, List.setIfInBounds_toArray, List.set_cons_zero, List.set_cons_succ])
        refine wpAnyH_skip (i := 6) (oi := ?_) ?_ (by kernel_rfl) (by kernel_rfl) (by kernel_rfl) ?_ ?_ hHeld ?_
        rotate_left 1
        · simp only [List.getElem?_toArray, List.getElem?_cons_succ, List.getElem?_cons_zero]; rfl
        · exact fun _ _ _ h => h
        · kernel_rfl
        (try simp only [Act.put, List.setIfInBounds_toArray, List.set_cons_zero, List.set_cons_succ])
        refine wpAnyH_skip (i := 7) (oi := ?_) ?_ (by kernel_rfl) (by kernel_rfl) (by kernel_rfl) ?_ ?_ hHeld ?_
        rotate_left 1
        · simp only [List.getElem?_toArray, List.getElem?_cons_succ, List.getElem?_cons_zero]; rfl
        · exact fun _ _ _ h => h
        · kernel_rfl
        (try simp only [Act.put, List.setIfInBounds_toArray, List.set_cons_zero, List.set_cons_succ])
        refine wpAnyH_skip (i := 8) (oi := ?_) ?_ (by kernel_rfl) (by kernel_rfl) (by kernel_rfl) ?_ ?_ hHeld ?_
        rotate_left 1
        · simp only [List.getElem?_toArray, List.getElem?_cons_succ, List.getElem?_cons_zero]; rfl
        · exact fun _ _ _ h => h
        · kernel_rfl
        (try simp only [Act.put, List.setIfInBounds_toArray, List.set_cons_zero, List.set_cons_succ])
        refine wpAnyH_skip (i := 9) (oi := ?_) ?_ (by kernel_rfl) (by kernel_rfl) (by kernel_rfl) ?_ ?_ hHeld ?_
        rotate_left 1
        · simp only [List.getElem?_toArray, List.getElem?_cons_succ, List.getElem?_cons_zero]; rfl
        · exact fun _ _ _ h => h
        · kernel_rfl
        (try simp only [Act.put, List.setIfInBounds_toArray, List.set_cons_zero, List.set_cons_succ])
        refine wpAnyH_skip (i := 10) (oi := ?_) ?_ (by kernel_rfl) (by kernel_rfl) (by kernel_rfl) ?_ ?_ hHeld ?_
        rotate_left 1
        · simp only [List.getElem?_toArray, List.getElem?_cons_succ, List.getElem?_cons_zero]; rfl
        · exact fun _ _ _ h => h
        · kernel_rfl
        (try simp only [Act.put, List.setIfInBounds_toArray, List.set_cons_zero, List.set_cons_succ])
        refine wpAnyH_take_now (i := 11) (oi := ?_) (v := ?_) ?_ (by kernel_rfl) (by kernel_rfl) (by kernel_rfl) ?_ ?_ ?_ hHeld ?_
        rotate_left 2
        · simp only [List.getElem?_toArray, List.getElem?_cons_succ, List.getElem?_cons_zero]; rfl
        · exact fun _ _ _ h => h
        · kernel_rfl
        · (intro w hSw; (try dsimp only at hSw); go_simp; try with_reducible rfl)
        (try simp only [Act.put, List.setIfInBounds_toArray, List.set_cons_zero, List.set_cons_succ])
        refine wpAnyH_take_now (i := 12) (oi := ?_) (v := ?_) ?_ (by kernel_rfl) (by kernel_rfl) (by kernel_rfl) ?_ ?_ ?_ hHeld ?_
        rotate_left 2
        · simp only [List.getElem?_toArray, List.getElem?_cons_succ, List.getElem?_cons_zero]; rfl
        · exact fun _ _ _ h => h
        · kernel_rfl
        · (intro w hSw; (try dsimp only at hSw); go_simp; try with_reducible rfl)
        (try simp only [Act.put, List.setIfInBounds_toArray, List.set_cons_zero, List.set_cons_succ])
        refine wpAnyH_take_now (i := 13) (oi := ?_) (v := ?_) ?_ (by kernel_rfl) (by kernel_rfl) (by kernel_rfl) ?_ ?_ ?_ hHeld ?_
        rotate_left 2
        · simp only [List.getElem?_toArray, List.getElem?_cons_succ, List.getElem?_cons_zero]; rfl
        · exact fun _ _ _ h => h
        · kernel_rfl
        · (intro w hSw; (try dsimp only at hSw); go_simp; try with_reducible rfl)
        (try simp only [Act.put, List.setIfInBounds_toArray, List.set_cons_zero, List.set_cons_succ])
        refine wpAnyH_take_now (i := 14) (oi := ?_) (v := ?_) ?_ (by kernel_rfl) (by kernel_rfl) (by kernel_rfl) ?_ ?_ ?_ hHeld ?_
        rotate_left 2
        · simp only [List.getElem?_toArray, List.getElem?_cons_succ, List.getElem?_cons_zero]; rfl
        · exact fun _ _ _ h => h
        · kernel_rfl
        · (intro w hSw; (try dsimp only at hSw); go_simp; try with_reducible rfl)
        (try simp only [Act.put, List.setIfInBounds_toArray, List.set_cons_zero, List.set_cons_succ])
        refine wpAnyH_take_now (i := 15) (oi := ?_) (v := ?_) ?_ (by kernel_rfl) (by kernel_rfl) (by kernel_rfl) ?_ ?_ ?_ hHeld ?_
        rotate_left 2
        · simp only [List.getElem?_toArray, List.getElem?_cons_succ, List.getElem?_cons_zero]; rfl
        · exact fun _ _ _ h => h
        · kernel_rfl
        · (intro w hSw; (try dsimp only at hSw); go_simp; try with_reducible rfl)
        (try simp only [Act.put, List.setIfInBounds_toArray, List.set_cons_zero, List.set_cons_succ])
        refine wpAnyH_take_now (i := 16) (oi := ?_) (v := ?_) ?_ (by kernel_rfl) (by kernel_rfl) (by kernel_rfl) ?_ ?_ ?_ hHeld ?_
        rotate_left 2
        · simp only [List.getElem?_toArray, List.getElem?_cons_succ, List.getElem?_cons_zero]; rfl
        · exact fun _ _ _ h => h
        · kernel_rfl
        · (intro w hSw; (try dsimp only at hSw); go_simp; try with_reducible rfl)
        (try simp only [Act.put, List.setIfInBounds_toArray, List.set_cons_zero, List.set_cons_succ])
        refine wpAnyH_take_now (i := 17) (oi := ?_) (v := ?_) ?_ (by kernel_rfl) (by kernel_rfl) (by kernel_rfl) ?_ ?_ ?_ hHeld ?_
        rotate_left 2
        · simp only [List.getElem?_toArray, List.getElem?_cons_succ, List.getElem?_cons_zero]; rfl
        · exact fun _ _ _ h => h
        · kernel_rfl
        · (intro w hSw; (try dsimp only at hSw); go_simp; try with_reducible rfl)
        (try simp only [Act.put, List.setIfInBounds_toArray, List.set_cons_zero, List.set_cons_succ])
        refine wpAnyH_take_now (i := 19) (oi := ?_) (v := ?_) ?_ (by kernel_rfl) (by kernel_rfl) (by kernel_rfl) ?_ ?_ ?_ hHeld ?_
        rotate_left 2
        · simp only [List.getElem?_toArray, List.getElem?_cons_succ, List.getElem?_cons_zero]; rfl
        · exact fun _ _ _ h => h
        · kernel_rfl
        · (intro w hSw; (try dsimp only at hSw); go_simp; try with_reducible rfl)
        (try simp only [Act.put, List.setIfInBounds_toArray, List.set_cons_zero, List.set_cons_succ])
        refine wpAnyH_take_now (i := 20) (oi := ?_) (v := ?_) ?_ (by kernel_rfl) (by kernel_rfl) (by kernel_rfl) ?_ ?_ ?_ hHeld ?_
        rotate_left 2
        · simp only [List.getElem?_toArray, List.getElem?_cons_succ, List.getElem?_cons_zero]; rfl
        · exact fun _ _ _ h => h
        · kernel_rfl
        · (intro w hSw; (try dsimp only at hSw); go_simp; try with_reducible rfl)
        (try simp only [Act.put, List.setIfInBounds_toArray, List.set_cons_zero, List.set_cons_succ])
        refine wpAnyH_take_now (i := 21) (oi := ?_) (v := ?_) ?_ (by kernel_rfl) (by kernel_rfl) (by kernel_rfl) ?_ ?_ ?_ hHeld ?_
        rotate_left 2
        · simp only [List.getElem?_toArray, List.getElem?_cons_succ, List.getElem?_cons_zero]; rfl
        · exact fun _ _ _ h => h
        · kernel_rfl
        · (intro w hSw; (try dsimp only at hSw); go_simp; try with_reducible rfl)
        (try simp only [Act.put, List.setIfInBounds_toArray, List.set_cons_zero, List.set_cons_succ])
        refine wpAnyH_ready (rs := [18]) (by kernel_rfl) (by simp) ?_
        refine AllReadyH.cons (o := ?_) ?_ (fun K hK => ?_) AllReadyH.nil
        rotate_left 1
        · simp only [List.getElem?_toArray, List.getElem?_cons_succ, List.getElem?_cons_zero]; rfl
        go_simp
        (go_at_call 15; refine (putText_any (strOfNums t0) _ hz2).mono ?_; rintro e wq ⟨Aq, cq, rfl, oq, hq⟩; have dq1 := (hq.cell (p := ⟨wg1.heap.size, 0, none⟩) yz1).trans cz1; have dq2 := (hq.cell (p := ⟨wg2.heap.size, 0, none⟩) yz2).trans cz2; have bq := HB.out.drew.below (hq.mono yb))
        refine hK.out _ _ ?_ (fun hHeld => ?_)
        · first | exact ⟨dq1, dq2⟩ | go_keep
        clear hK K
        (try simp only [Act.put, List.setIfInBounds_toArray, List.set_cons_zero, List.set_cons_succ])
        refine wpAnyH_ready (rs := [22]) (by kernel_rfl) (by simp) ?_
        refine AllReadyH.cons (o := ?_) ?_ (fun K hK => ?_) AllReadyH.nil
        rotate_left 1
        · simp only [List.getElem?_toArray, List.getElem?_cons_succ, List.getElem?_cons_zero]; rfl
        go_simp
        (go_at_call_of 13 (Value.slice Ab m2 cb); refine (same_is Hp2.out (Shows.of_own oq) (take8 bq (by have := Hm2.out; have := Hbl.out; omega)) (putT_bytes _) (take_mem Hbx.out)).mono ?_; rintro e wr ⟨rfl, rfl⟩)
        refine hK.out _ _ ?_ (fun hHeld => ?_)
        · first | exact ⟨dq1, dq2⟩ | go_keep
        clear hK K
        (try simp only [Act.put, List.setIfInBounds_toArray, List.set_cons_zero, List.set_cons_succ])
        refine wpAnyH_take_now (i := 23) (oi := ?_) (v := ?_) ?_ (by kernel_rfl) (by kernel_rfl) (by kernel_rfl) ?_ ?_ ?_ hHeld ?_
        rotate_left 2
        · simp only [List.getElem?_toArray, List.getElem?_cons_succ, List.getElem?_cons_zero]; rfl
        · exact fun _ _ _ h => h
        · kernel_rfl
        · (intro w hSw; (try dsimp only at hSw); go_simp; try with_reducible rfl)
        (try simp only [Act.put, List.setIfInBounds_toArray, List.set_cons_zero, List.set_cons_succ])
        refine wpAnyH_take_now (i := 24) (oi := ?_) (v := ?_) ?_ (by kernel_rfl) (by kernel_rfl) (by kernel_rfl) ?_ ?_ ?_ hHeld ?_
        rotate_left 2
        · simp only [List.getElem?_toArray, List.getElem?_cons_succ, List.getElem?_cons_zero]; rfl
        · exact fun _ _ _ h => h
        · kernel_rfl
        · (intro w hSw; (try dsimp only at hSw); go_simp; try with_reducible rfl)
        (try simp only [Act.put, List.setIfInBounds_toArray, List.set_cons_zero, List.set_cons_succ])
        refine wpAnyH_take_now (i := 25) (oi := ?_) (v := ?_) ?_ (by kernel_rfl) (by kernel_rfl) (by kernel_rfl) ?_ ?_ ?_ hHeld ?_
        rotate_left 2
        · simp only [List.getElem?_toArray, List.getElem?_cons_succ, List.getElem?_cons_zero]; rfl
        · exact fun _ _ _ h => h
        · kernel_rfl
        · (intro w hSw; (try dsimp only at hSw); go_simp; try with_reducible rfl)
        (try simp only [Act.put, List.setIfInBounds_toArray, List.set_cons_zero, List.set_cons_succ])
        refine wpAnyH_done (by kernel_rfl) ?_ _
        go_wp2_with fail
        go_meet
        exact ⟨rfl, bq, bel_call HBel.out.drew hq⟩
      · have f1 : (r2 == 0) = false := by simpa using e1
        have f2 : (t2 == 0) = false := by simpa using e2
        clear e1 e2
        go_quiet (fail)
        go_wp2_with fail
        go_meet
        exact ⟨rfl, hbz, bel_drewN bel13 _⟩
  case rest =>
    obtain ⟨rfl, hb, bel14⟩ := hcut
    have zc := bel14.size
    clear AtN AtT AtL qN qT pN pT pL HxL Hll hax l1 l2 l3 l4 h1 h2 h3 hi hz0 hz1 hz2 hx Hal me1 me2 me3 me1' me2' me3' ze1 ze2 ze3 zc1 zc2 zc3 zf1 zf2 zf3 b4 hb1 hb2 hb3 hb4 hg1 hg2 tg1 z1 z2 z3 z4 bel13 hbz cg0 ug GN GT Hr Ht RC TC
    go_wp2_with fail
    refine (list_is Hg.out hb zc (by omega) hbc hbx (by omega) (by omega)).mono ?_
    rintro e wv ⟨A9, c9, rfl, o9, hv⟩
    have hvz := hv.size
    have k9 := (Shows.of_own o9).alloc (Nat.le_refl _) (.cells #[.int .i64 g2, .int .i64 g3] 37)
    have hbz := (hb.call hv zc).alloc (by omega) (.cells #[.int .i64 g2, .int .i64 g3] 37)
    have bel15 := bel_alloc (bel_call bel14 hv) (.cells #[.int .i64 g2, .int .i64 g3] 37)
    have cz1 : (wv.alloc (.cells #[.int .i64 g2, .int .i64 g3] 37)).cell? ⟨wv.heap.size, 0, none⟩ = some (.int .i64 g2) := (World.cell?_alloc_new _ _ _ _).trans rfl
    have yz1 : wv.heap.size < (wv.alloc (.cells #[.int .i64 g2, .int .i64 g3] 37)).heap.size := by simp
    go_upto_region 16 with fail
    obtain ⟨wz, hwz⟩ : ∃ wz, wz = wv.alloc (.cells #[.int .i64 g2, .int .i64 g3] 37) := ⟨_, rfl⟩
    rw [← hwz] at cz1 yz1 hbz k9 bel15 ⊢
    have yb := bel15.size
    clear hwz hv o9
    by_cases e3 : g2 = 0
    · obtain ⟨m3, hr3, hm3, hp3, hq3, hn3⟩ := GL.out e3
      have Hp3 := Lib.hid (show sameB (putL g0) (bh.take m3) = true from decide_eq_true hp3)
      have kk3 : ∀ w, (Instr.slice 23 (.slice Ab kb cb) none (some (.int .i64 g1)) none).run Try.prog w = .ok (.slice Ab m3 cb) w := fun w => by
        rw [hr3]; exact cut_to (P := Try.prog) 1 Try.underlying23 size_u8 Ab kb cb m3 (by have := Hbl.out; omega) w
      have Hm3 := Lib.hid hm3
      have Hq3 := Lib.hid hq3
      have hn : g0.length ≤ 65536 := by omega
      clear hp3 hr3 hm3 hq3 hn3
      subst e3
      have Hbx := Lib.hid hbx
      have HB := Lib.hid hbz
      have HK := Lib.hid k9
      have HBel := Lib.hid bel15
      clear hbx hbz bel15 k9
      go_region_held3 (fun w' => w'.cell? ⟨wv.heap.size, 0, none⟩ = some (.int .i64 0)) (go_keep) (first
        | (go_at_call 16; refine (putList_any A9 _ c9 g0 _ _ HK.out.drew (Nat.le_of_lt yz1) hn Hq3.out).mono ?_; rintro e wp ⟨Ap, cp, rfl, op, hp⟩; have dp1 := (hp.cell (p := ⟨wv.heap.size, 0, none⟩) yz1).trans cz1; have bp := HB.out.drew.below (hp.mono yb); have zp := hp.size)
        | (go_at_call_of 13 (Value.slice Ab m3 cb); refine (same_is Hp3.out (Shows.of_own op) (take8 bp (by have := Hm3.out; have := Hbl.out; omega)) (putL_bytes _) (take_mem Hbx.out)).mono ?_; rintro e wr ⟨rfl, rfl⟩))
      go_wp2_with fail
      go_ret
      exact ⟨rfl, bel_call HBel.out.drew hp⟩
    · have f3 : (g2 != 0) = true := by simpa using e3
      clear e3
      go_quiet (fail)
      go_wp2_with fail
      go_ret
      exact ⟨rfl, bel_drewN bel15 _⟩
theorem oback_walk (n : Int) (s : ByteArray) (A0 : Option Addr) (k0 c0 : Nat) (l : List Int) (A1 : Option Addr) (k1 c1 : Nat) (ah : List Int) (Ab : Option Addr) (kb cb : Nat) (bh : List Int) (w : World) (hn : -9223372036854775808 ≤ n ∧ n ≤ 9223372036854775807) (hs : s.size ≤ maxLen)
    (hl : Shows w w.heap.size 1 A0 k0 (I64 l)) (hx : ∀ x ∈ l, -9223372036854775808 ≤ x ∧ x ≤ 9223372036854775807) (_ : k0 ≤ c0) (_ : c0 ≤ maxLen) (ha : Shows w w.heap.size 1 A1 k1 (U8 ah)) (hax : ∀ x ∈ ah, 0 ≤ x ∧ x ≤ 255) (_ : k1 ≤ c1) (_ : c1 ≤ maxLen) (hb : Shows w w.heap.size 1 Ab kb (U8 bh)) (hbx : ∀ x ∈ bh, 0 ≤ x ∧ x ≤ 255) (hbc : kb ≤ cb) (_ : cb ≤ maxLen) :
    Calls Try.prog 6 #[.int .i64 n, .string s, .slice A0 k0 c0, .slice A1 k1 c1, .slice Ab kb cb] w fun e w' => e = .returned (.bool true) ∧ Below w.heap.size w w' := by
  unfold maxLen at hs
  by_cases h : 1000 < s.size ∨ 500 < k0 ∨ 1000 < k1 ∨ 1000 < kb
  · exact back_early n s A0 A1 Ab k0 c0 k1 c1 kb cb w (by omega) h
  · exact back_main n s A0 A1 Ab k0 c0 k1 c1 kb cb l ah bh w hn.1 hn.2 hl hx ha hax hb hbx hbc (by omega) (by omega) (by omega) (by omega)
end Go.Proofs.Ytnhiipiciondoaa
