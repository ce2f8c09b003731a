/- The walks of the document's 'Next', 'Days'. -/
import Derived.Test.YtfgpndmlellidaaHolEdges
namespace Go.Proofs.Ytfgpndmlellidaa
open Go.RowKit

theorem i64_at {w : World} {B n : Nat} {A : Option Addr} {xs : List Int} (h : Shows w B 1 A n (I64 xs)) {i : Nat} {u : Int} (hu : xs[i]? = some u) : ∃ b off, A = some ⟨b, off, none⟩ ∧ b < B ∧ w.cell? ⟨b, off + i, none⟩ = some (.int .i64 u) := by
  have hi := (List.getElem?_eq_some_iff.1 hu).1
  have hl := h.len
  obtain ⟨b, off, e, hb, hc⟩ := h.at_ (by simp [I64] at hl; omega)
  refine ⟨b, off, e, hb, ?_⟩
  rw [hc i (by simpa [I64] using hi), List.getD, I64, List.getElem?_map, hu]; rfl
set_option maxRecDepth 100000 in
set_option maxHeartbeats 8000000 in
theorem rnext_any (A : Option Addr) (n c : Nat) (l : List S6) (jj q d : Int) (B : Nat) (w : World) (ha : Shows w B 6 A n (RC l)) (hB : B ≤ w.heap.size) (hn : n ≤ maxLen) (hf : Fit6 l) {vr : Int} {bt : Bool} (hr : Hol.hand2 (Hol.nextF l jj q d) = (vr, bt)) :
    Calls Try.prog 18 #[.slice A n c, .int .i64 jj, .int .i64 q, .int .i64 d] w fun e w' => e = .returned (.tuple #[.int .i64 vr, .bool bt]) ∧ Below w.heap.size w w' := by
  by_cases hd : 0 ≤ d ∧ d ≤ 3652058
  · have hw := fun w => rwithin_yes hd w
    have hi := Lib.hid (Hol.nextF_is (l := l) (j := jj) (c := q) hd)
    have Hr := Lib.hid hr
    have he := edges_any A n c l d 3652058 B w ha hB hn hf hd.1 hd.2 (Int.le_refl _)
    have hcov := fun (w' : World) (h : Shows w' B 6 A n (RC l)) (h' : B ≤ w'.heap.size) d => covers_any A n c l jj q d B w' h h' hn
    obtain ⟨d0, d1⟩ := hd
    clear hr hf
    go_enter Try.func18, Try.ntmps18
    go_wp2_with fail
    refine (hw _).mono ?_
    rintro e w1' ⟨rfl, rfl⟩
    go_wp2_with fail
    refine he.mono ?_
    rintro e w1 ⟨xs, A1, c1, hE, hlast, rfl, ho1, hb1⟩
    have hlen := Hol.edges_len hE
    have HE := Lib.hid hE
    have Hlast := Lib.hid hlast
    obtain ⟨K, hK⟩ : ∃ K, xs.length = K := ⟨_, rfl⟩
    have HK := Lib.hid hK
    rw [hK] at ho1 hlen ⊢
    have hs1 := Shows.of_own ho1
    have ha1 := ha.call hb1 hB
    have hK0 : 0 < K := by
      rw [← hK]
      rcases xs with _ | ⟨x, t⟩
      · have h1 := hE.1; simp at h1
      · simp
    clear hE hlast hK he
    go_wp2_with fail
    go_loopw [11] (fun s11 wr => ∃ i : Nat, s11 = .int .i64 i ∧ i < K ∧ (∀ u, xs[i]? = some u → ∀ m, d ≤ m → m < u → Hol.cov l jj q m = false) ∧ Below w1.heap.size w1 wr) (fun i _ => K - (intOf i).toNat)
    case atStart => exact ⟨0, rfl, hK0, fun u hu m h1 h2 => by rw [HE.out.1] at hu; injection hu with hu; omega, Below.refl _ _⟩
    case round =>
      obtain ⟨i, rfl, hiK, hno, hbel⟩ := hrel
      have Hno := Lib.hid hno
      clear hno
      obtain ⟨u, hu⟩ : ∃ u, xs[i]? = some u := ⟨xs[i]'(by rw [HK.out]; exact hiK), List.getElem?_eq_getElem _⟩
      have hno := Hno.out u hu
      have hin := HE.out.2.2 u (List.mem_of_getElem? hu)
      by_cases hlt : i + 1 < K
      · obtain ⟨v, hv⟩ : ∃ v, xs[i + 1]? = some v := ⟨xs[i + 1]'(by rw [HK.out]; exact hlt), List.getElem?_eq_getElem _⟩
        have hst := HE.out.2.1 i u v hu hv
        obtain ⟨b, off, rfl, hb, g1⟩ := i64_at hs1 hu
        have g1 := (hbel.cell (p := ⟨b, off + i, none⟩) hb).trans g1
        have hc := hcov wr (ha1.call hbel (Nat.le_trans hB hb1.size)) (Nat.le_trans (Nat.le_trans hB hb1.size) hbel.size) u
        have q3 : (0 : Int) ≤ (i : Int) := by omega
        have q4 : (i : Int) < (K : Int) := by omega
        have q5 : (i : Int) + 1 < (K : Int) := by omega
        have q6 : decide ((i : Int) + 1 < (K : Int)) = true := decide_eq_true q5
        have q7 : decide (i + 1 < K) = true := decide_eq_true hlt
        by_cases hcu : Hol.cov l jj q u = true
        · have hfin := Hol.isNext_unique hi.out (show Hol.IsNext (Hol.cov l jj q) d (some u) from ⟨hin.1, by omega, hcu, hno⟩)
          rw [hcu] at hc
          have Hfin := Lib.hid (Prod.mk.inj (show (u, true) = (vr, bt) by have := Hr.out; rw [hfin] at this; exact this))
          clear hfin hcu hst hin hno hu hv
          go_wp2_with fail
          refine hc.mono ?_
          rintro e w2 ⟨rfl, hb2⟩
          have g2 := (hb2.cell (p := ⟨b, off + i, none⟩) (by have := hbel.size; show b < _; omega)).trans g1
          go_wp2_with fail
          go_ret2
          exact ⟨by rw [← Hfin.out.1, ← Hfin.out.2]; rfl, bel_call (bel_call hb1 hbel) hb2⟩
        · have hcf : Hol.cov l jj q u = false := by simpa using hcu
          rw [hcf] at hc
          have Hn := Lib.hid (Hol.edges_next HE.out hu hv hno hcf)
          have Hv := Lib.hid hv
          clear hcu hcf hst hin hno hu hv
          go_wp2_with fail
          refine hc.mono ?_
          rintro e w2 ⟨rfl, hb2⟩
          go_wp2_with fail
          go_roundw
          case rel => exact ⟨i + 1, by go_num, hlt, fun u' hu' => by rw [Hv.out] at hu'; injection hu' with hu'; subst hu'; exact Hn.out, bel_call hbel hb2⟩
          case measure => simp [intOf]; omega
      · have hul := Hlast.out
        rw [HK.out, show K - 1 = i by omega, hu] at hul
        injection hul with hul
        have hfin := Hol.isNext_unique hi.out (show Hol.IsNext (Hol.cov l jj q) d none from fun m h1 h2 => hno m h1 (by omega))
        have Hfin := Lib.hid (Prod.mk.inj (show ((0 : Int), false) = (vr, bt) by have := Hr.out; rw [hfin] at this; exact this))
        have q5 : ¬ (i : Int) + 1 < (K : Int) := by omega
        have q6 : decide ((i : Int) + 1 < (K : Int)) = false := decide_eq_false q5
        have q7 : decide (i + 1 < K) = false := decide_eq_false hlt
        clear hfin hul hin hno hu
        go_wp2_with fail
        go_ret2
        exact ⟨by rw [← Hfin.out.1, ← Hfin.out.2]; rfl, bel_call hb1 hbel⟩
  · have hw := fun w => rwithin_no hd w
    have hnx : Hol.nextF l jj q d = none := by unfold Hol.nextF; rw [if_pos (.inr hd)]
    rw [hnx] at hr
    obtain ⟨rfl, rfl⟩ := Prod.mk.inj (show ((0 : Int), false) = (vr, bt) from hr)
    clear hnx hr hd
    go_enter Try.func18, Try.ntmps18
    go_wp2_with fail
    refine (hw _).mono ?_
    rintro e w1' ⟨rfl, rfl⟩
    go_wp2_with fail
    go_ret2
    exact ⟨rfl, Below.refl _ _⟩
set_option maxRecDepth 100000 in
set_option maxHeartbeats 8000000 in
theorem rdays_any (A : Option Addr) (n c : Nat) (l : List S6) (jj q a z : Int) (B : Nat) (w : World) (ha : Shows w B 6 A n (RC l)) (hB : B ≤ w.heap.size) (hn : n ≤ maxLen) (hf : Fit6 l) :
    Calls Try.prog 20 #[.slice A n c, .int .i64 jj, .int .i64 q, .int .i64 a, .int .i64 z] w fun e w' => e = .returned (.int .i64 (Hol.daysF l jj q a z)) ∧ Below w.heap.size w w' := by
  by_cases h1 : 0 ≤ a ∧ a ≤ 3652058
  · have hw1 := fun w => rwithin_yes h1 w
    by_cases h2 : 0 ≤ z ∧ z ≤ 3652058
    · have hw2 := fun w => rwithin_yes h2 w
      have hdy := Lib.hid (show Hol.daysF l jj q a z = Hol.span (Hol.cov l jj q) a z by unfold Hol.daysF; rw [if_pos (by omega)])
      obtain ⟨a0, a1⟩ := h1
      obtain ⟨z0, z1⟩ := h2
      by_cases haz : a ≤ z
      · have he := edges_any A n c l a z B w ha hB hn hf a0 haz z1
        have hcov := fun (w' : World) (h : Shows w' B 6 A n (RC l)) (h' : B ≤ w'.heap.size) d => covers_any A n c l jj q d B w' h h' hn
        clear hf
        go_enter Try.func20, Try.ntmps20
        go_wp2_with fail
        refine (hw1 _).mono ?_
        rintro e w1' ⟨rfl, rfl⟩
        go_wp2_with fail
        refine (hw2 _).mono ?_
        rintro e w1' ⟨rfl, rfl⟩
        go_wp2_with fail
        refine he.mono ?_
        rintro e w1 ⟨xs, A1, c1, hE, hlast, rfl, ho1, hb1⟩
        have hlen := Hol.edges_len hE
        have HE := Lib.hid hE
        have Hlast := Lib.hid hlast
        obtain ⟨K, hK⟩ : ∃ K, xs.length = K := ⟨_, rfl⟩
        have HK := Lib.hid hK
        rw [hK] at ho1 hlen ⊢
        have hs1 := Shows.of_own ho1
        have ha1 := ha.call hb1 hB
        have hK0 : 0 < K := by
          rw [← hK]
          rcases xs with _ | ⟨x, t⟩
          · have h1 := hE.1; simp at h1
          · simp
        clear hE hlast hK he
        go_wp2_with fail
        go_loopw [13, 11] (fun s13 s11 wr => ∃ (i : Nat) (t : Int), s13 = .int .i64 i ∧ s11 = .int .i64 t ∧ i < K ∧ (∀ u, xs[i]? = some u → t = Hol.span (Hol.cov l jj q) a (u - 1)) ∧ 0 ≤ t ∧ t ≤ 3652059 ∧ Below w1.heap.size w1 wr) (fun i _ _ => K - (intOf i).toNat)
        case atStart => exact ⟨0, 0, rfl, rfl, hK0, fun u hu => by rw [HE.out.1] at hu; injection hu with hu; subst hu; exact (Hol.span_zero _ (by omega)).symm, Int.le_refl _, by omega, Below.refl _ _⟩
        case round =>
          obtain ⟨i, t, rfl, rfl, hiK, hno, t0, t1, hbel⟩ := hrel
          have Hno := Lib.hid hno
          clear hno
          obtain ⟨u, hu⟩ : ∃ u, xs[i]? = some u := ⟨xs[i]'(by rw [HK.out]; exact hiK), List.getElem?_eq_getElem _⟩
          have hno := Hno.out u hu
          obtain ⟨hin1, hin2⟩ := HE.out.2.2 u (List.mem_of_getElem? hu)
          by_cases hlt : i + 1 < K
          · obtain ⟨v, hv⟩ : ∃ v, xs[i + 1]? = some v := ⟨xs[i + 1]'(by rw [HK.out]; exact hlt), List.getElem?_eq_getElem _⟩
            obtain ⟨hin3, hin4⟩ := HE.out.2.2 v (List.mem_of_getElem? hv)
            have hst := Hol.edges_step (j := jj) (c := q) HE.out hu hv
            have huv := (HE.out.2.1 i u v hu hv).1
            rw [← hno] at hst
            have hbd := Hol.span_bd (Hol.cov l jj q) a (v - 1) (by omega)
            obtain ⟨b, off, rfl, hb, g1⟩ := i64_at hs1 hu
            have g1 := (hbel.cell (p := ⟨b, off + i, none⟩) hb).trans g1
            obtain ⟨b', off', hA, _, g2⟩ := i64_at hs1 hv
            injection hA with hA
            injection hA with hA1 hA2
            subst hA1; subst hA2
            have g2 := (hbel.cell (p := ⟨b, off + (i + 1), none⟩) hb).trans g2
            have hc := hcov wr (ha1.call hbel (Nat.le_trans hB hb1.size)) (Nat.le_trans (Nat.le_trans hB hb1.size) hbel.size) u
            have q3 : (0 : Int) ≤ (i : Int) := by omega
            have q4 : (i : Int) < (K : Int) := by omega
            have q5 : (i : Int) + 1 < (K : Int) := by omega
            have q6 : decide ((i : Int) + 1 < (K : Int)) = true := decide_eq_true q5
            have q7 : decide (i + 1 < K) = true := decide_eq_true hlt
            have q8 : (0 : Int) ≤ (i : Int) + 1 := by omega
            have Hv := Lib.hid hv
            by_cases hcu : Hol.cov l jj q u = true
            · rw [hcu] at hc
              rw [if_pos hcu] at hst
              rw [hst] at hbd
              have Hst := Lib.hid hst
              obtain ⟨bd1, bd2⟩ := hbd
              clear hcu hst hno hu hv
              go_wp2_with fail
              refine hc.mono ?_
              rintro e w2 ⟨rfl, hb2⟩
              have hbw : b < wr.heap.size := by have := hbel.size; omega
              have k1 := (hb2.cell (p := ⟨b, off + i, none⟩) hbw).trans g1
              have k2 := (hb2.cell (p := ⟨b, off + (i + 1), none⟩) hbw).trans g2
              have k3 := k2
              rw [← Nat.add_assoc] at k3
              have q9 : IntKind.i64.wrap ((i : Int) + 1) = (i : Int) + 1 := IntWalk.i64_in _ (by omega)
              have qa : ((i : Int) + 1).toNat = i + 1 := by omega
              have qb : IntKind.i64.wrap (t + v) = t + v := IntWalk.i64_in _ (by omega)
              have qc : IntKind.i64.wrap (t + v - u) = t + v - u := IntWalk.i64_in _ (by omega)
              go_wp2_with fail
              go_quiet (fail)
              clear q9 qa qb qc
              go_wp2_with fail
              go_roundw
              case rel => exact ⟨i + 1, t + v - u, by go_num, by first | rfl | go_num, hlt, fun u' hu' => by rw [Hv.out] at hu'; injection hu' with hu'; subst hu'; rw [Hst.out]; omega, by omega, by omega, bel_drewN (bel_call hbel hb2) _⟩
              case measure => simp [intOf]; omega
            · have hcf : Hol.cov l jj q u = false := by simpa using hcu
              rw [hcf] at hc
              rw [if_neg hcu] at hst
              have Hst := Lib.hid hst
              clear hcu hcf hst hno hu hv hbd
              go_wp2_with fail
              refine hc.mono ?_
              rintro e w2 ⟨rfl, hb2⟩
              go_wp2_with fail
              go_roundw
              case rel => exact ⟨i + 1, t, by go_num, rfl, hlt, fun u' hu' => by rw [Hv.out] at hu'; injection hu' with hu'; subst hu'; rw [Hst.out]; omega, t0, t1, bel_call hbel hb2⟩
              case measure => simp [intOf]; omega
          · have hul := Hlast.out
            rw [HK.out, show K - 1 = i by omega, hu] at hul
            injection hul with hul
            have Hfin := Lib.hid (show Hol.daysF l jj q a z = t by rw [hdy.out, hno, hul]; congr 1; omega)
            have q5 : ¬ (i : Int) + 1 < (K : Int) := by omega
            have q6 : decide ((i : Int) + 1 < (K : Int)) = false := decide_eq_false q5
            have q7 : decide (i + 1 < K) = false := decide_eq_false hlt
            clear hul hno hu
            go_wp2_with fail
            go_ret
            exact ⟨by rw [Hfin.out]; rfl, bel_call hb1 hbel⟩
      · have hr := Lib.hid (show Hol.daysF l jj q a z = 0 by rw [hdy.out, Hol.span_zero _ (by omega)])
        go_enter Try.func20, Try.ntmps20
        go_wp2_with fail
        refine (hw1 _).mono ?_
        rintro e w1' ⟨rfl, rfl⟩
        go_wp2_with fail
        refine (hw2 _).mono ?_
        rintro e w1' ⟨rfl, rfl⟩
        go_wp2_with fail
        go_ret
        exact ⟨by rw [hr.out]; rfl, Below.refl _ _⟩
    · have hw2 := fun w => rwithin_no h2 w
      have hr := Lib.hid (show Hol.daysF l jj q a z = 0 by unfold Hol.daysF; rw [if_neg (by omega)])
      clear h1 h2
      go_enter Try.func20, Try.ntmps20
      go_wp2_with fail
      refine (hw1 _).mono ?_
      rintro e w1' ⟨rfl, rfl⟩
      go_wp2_with fail
      refine (hw2 _).mono ?_
      rintro e w1' ⟨rfl, rfl⟩
      go_wp2_with fail
      go_ret
      exact ⟨by rw [hr.out]; rfl, Below.refl _ _⟩
  · have hw1 := fun w => rwithin_no h1 w
    have hr := Lib.hid (show Hol.daysF l jj q a z = 0 by unfold Hol.daysF; rw [if_neg (by omega)])
    clear h1
    go_enter Try.func20, Try.ntmps20
    go_wp2_with fail
    refine (hw1 _).mono ?_
    rintro e w1' ⟨rfl, rfl⟩
    go_wp2_with fail
    go_ret
    exact ⟨by rw [hr.out]; rfl, Below.refl _ _⟩
end Go.Proofs.Ytfgpndmlellidaa
