/- The walk of the cutter's begins. -/
import Derived.Test.YtkdgomalhngagaaDoorTkStop
import Derived.Test.YtkdgomalhngagaaDoorTokPlain2
namespace Go.Proofs.YtkdgomalhngagaaDoor
open Go.RowKit Go.Lib

theorem cls_skip {c : Int} (h : clsN c = 1 ∨ clsN c = 4) : ¬ (Tok.snd c ∨ c = 44 ∨ c = 35) ∧ c ≠ 0 := by
  refine ⟨?_, ?_⟩
  · rintro (g | rfl | rfl)
    · rcases g with g | g
      · rw [cls_L g] at h; omega
      · rw [cls_D g] at h; omega
    · rw [show clsN 44 = 5 by decide] at h; omega
    · rw [show clsN 35 = 6 by decide] at h; omega
  · rintro rfl
    rw [show clsN 0 = 0 by decide] at h; omega
theorem cls_first {c : Int} (h1 : clsN c ≠ 1) (h4 : clsN c ≠ 4) (h : Tok.okB c) : Tok.snd c ∨ c = 44 ∨ c = 35 := by
  unfold clsN at h1 h4
  unfold Tok.okB at h
  by_cases g1 : Tok.isL c
  · exact .inl (.inl g1)
  · by_cases g2 : Tok.isD c
    · exact .inl (.inr g2)
    · rw [if_neg g1, if_neg g2] at h1 h4
      by_cases g3 : Tok.isJ c
      · rw [if_pos g3] at h4; exact absurd rfl h4
      · rw [if_neg g3] at h1 h4
        by_cases g4 : c = 44
        · exact .inr (.inl g4)
        · by_cases g5 : c = 35
          · exact .inr (.inr g5)
          · rw [if_neg g4, if_neg g5, if_pos h] at h1; exact absurd rfl h1
/-- Where the tokens from the k-th on stand. -/
def Stands (s : ByteArray) (k q : Nat) : Prop := q ≤ s.size ∧ (Tok.toksP (nums s)).drop k = Tok.gop [] q ((nums s).drop q)
theorem Stands.skip {s : ByteArray} {k q : Nat} (h : Stands s k q) (hc : clsN (cAt s q) = 1 ∨ clsN (cAt s q) = 4) : Stands s k (q + 1) := by
  have hl := nums_len s
  obtain ⟨h1, h2⟩ := cls_skip hc
  have hq := cAt_lt h2
  exact ⟨by omega, by rw [h.2, Tok.gop_next (by omega) h1]⟩
theorem Stands.here {s : ByteArray} {k q : Nat} (h : Stands s k q) (hk : k < (Tok.toksP (nums s)).length) (hv : ∀ j, j < s.size → Tok.okB (cAt s j)) (h1 : clsN (cAt s q) ≠ 1) (h4 : clsN (cAt s q) ≠ 4) :
    ∃ t : Tok.Tk, (Tok.toksP (nums s))[k]? = some (q, t) ∧ (Tok.toks (nums s))[k]? = some t ∧ Stands s (k + 1) (q + t.2.length) ∧ t.2.length ≤ s.size := by
  have hl := nums_len s
  have hq : q < s.size := by
    rcases Nat.lt_or_ge q s.size with g | g
    · exact g
    · exfalso
      have e := h.2
      rw [List.drop_of_length_le (i := q) (by omega), Tok.gop_nil] at e
      have := congrArg List.length e
      rw [List.length_drop] at this
      simp at this
      omega
  obtain ⟨t, e, t1, t2⟩ := Tok.gop_first (l := nums s) (i := q) (by omega) (cls_first h1 h4 (hv q hq))
  have e2 := h.2
  rw [e] at e2
  have hg : (Tok.toksP (nums s))[k]? = some (q, t) := by
    have := congrArg (fun l => l[0]?) e2
    simpa using this
  refine ⟨t, hg, ?_, ⟨by omega, ?_⟩, by omega⟩
  · rw [← Tok.toksP_map, List.getElem?_map, hg]; rfl
  · have := congrArg (List.drop 1) e2
    rw [List.drop_drop] at this
    simpa using this
theorem dr1 (w : World) (a b : Nat) : ∃ m, (w.drewN a).drewN b = w.drewN m := ⟨_, World.drewN_drewN w a b⟩
theorem dr2 (w : World) (a b c : Nat) : ∃ m, ((w.drewN a).drewN b).drewN c = w.drewN m := ⟨a + (b + c), by rw [World.drewN_drewN, World.drewN_drewN]⟩
set_option maxRecDepth 100000 in
set_option maxHeartbeats 4000000 in
theorem begins_any {w : World} {C : Nat} {s : ByteArray} {p : Int} (h : CutT w C s (Tok.toks (nums s)) p) (hs : s.size ≤ 1000000) (hv : ∀ j, j < s.size → Tok.okB (cAt s j)) (hlen : 40 < (Tok.toks (nums s)).length) :
    Calls Tryd.prog 26 #[.pointer (some ⟨C, 0, none⟩), .int .i64 40] w fun e w' => ∃ (q : Nat) (t : Tok.Tk), e = .returned (.int .i64 (q : Int)) ∧ (Tok.toksP (nums s))[40]? = some (q, t) ∧ ∃ m, w' = w.drewN m := by
  obtain ⟨A, n, cp, hcut, hown, hn⟩ := h
  have Hn := Lib.hid hn
  have Hown := Lib.hid hown
  have Hv := Lib.hid hv
  have Hlen : Hid (40 < (Tok.toksP (nums s)).length) := Lib.hid (by rw [Tok.toksP_len]; exact hlen)
  clear hn hown hv hlen
  go_enter Tryd.func26, Tryd.ntmps26
  go_wp2_with fail
  go_loopw [5, 6] (fun at_ k wr => ∃ (q j : Nat), j ≤ 40 ∧ q ≤ s.size ∧ at_ = .int .i64 q ∧ k = .int .i64 j ∧ Hid (Stands s j q) ∧ ∃ m, wr = w.drewN m) (fun _ k _ => 41 - (RowKit.intOf k).toNat)
  case atStart => exact ⟨0, 0, by omega, by omega, rfl, rfl, Lib.hid ⟨by omega, rfl⟩, 0, rfl⟩
  case round =>
    obtain ⟨q, j, hj, hq, rfl, rfl, Hst, m, hm⟩ := hrel
    have Hm := Lib.hid hm
    clear hm
    go_wp2_with fail
    go_loopw [5] (fun at_ wr => ∃ (q : Nat), q ≤ s.size ∧ at_ = .int .i64 q ∧ Hid (Stands s j q) ∧ ∃ m, wr = w.drewN m) (fun a _ => s.size - (RowKit.intOf a).toNat)
    case atStart => exact ⟨q, hq, rfl, Hst, m, Hm.out⟩
    case round =>
      obtain ⟨q, hq, rfl, Hst, m, hm⟩ := hrel
      have hcw : Cut wr C s (.slice A n cp) p := by subst hm; exact hcut
      have hls := Hn.out
      have Hm := Lib.hid hm
      clear hm
      have hcls := fun {w' : World} (h : Cut w' C s (.slice A n cp) p) => class_at h (by omega) q
      by_cases h1 : clsN (cAt s q) = 1
      · have hn := Lib.hid (Hst.out.skip (.inl h1))
        rw [h1] at hcls
        clear h1
        go_wp2_with fail
        refine (hcls hcw).mono ?_
        rintro e w1 ⟨rfl, k1, hk1⟩
        have Hk1 := Lib.hid hk1
        clear hk1
        go_wp2_with fail
        go_roundw
        case rel =>
          have e1 := Hk1.out
          have e2 := Hm.out
          subst e1 e2
          exact ⟨q + 1, hn.out.1, by go_num, hn, dr1 _ _ _⟩
        case measure => have := hn.out.1; simp [RowKit.intOf]; omega
      · by_cases h4 : clsN (cAt s q) = 4
        · have hn := Lib.hid (Hst.out.skip (.inr h4))
          rw [h4] at hcls
          clear h1 h4
          go_wp2_with fail
          refine (hcls hcw).mono ?_
          rintro e w1 ⟨rfl, k1, hk1⟩
          have hc1 : Cut w1 C s (.slice A n cp) p := by subst hk1; exact hcw
          have Hk1 := Lib.hid hk1
          clear hk1
          go_wp2_with fail
          refine (hcls hc1).mono ?_
          rintro e w2 ⟨rfl, k2, hk2⟩
          have Hk2 := Lib.hid hk2
          clear hk2
          go_wp2_with fail
          go_roundw
          case rel =>
            have e1 := Hk1.out
            have e2 := Hm.out
            have e3 := Hk2.out
            subst e3 e1 e2
            exact ⟨q + 1, hn.out.1, by go_num, hn, dr2 _ _ _ _⟩
          case measure => have := hn.out.1; simp [RowKit.intOf]; omega
        · obtain ⟨t, ht1, ht2, hst2, htl⟩ := Hst.out.here (by have := Hlen.out; omega) Hv.out h1 h4
          have Ht1 := Lib.hid ht1
          have Hst2 := Lib.hid hst2
          generalize hv : clsN (cAt s q) = v at *
          have t1 : (v == 1) = false := by simpa using h1
          have t4 : (v == 4) = false := by simpa using h4
          obtain ⟨b, off, hA, hbl, g1, g2⟩ := (shows_row Hown.out).tk ht2
          have hz2 : (strOfNums t.2).size = t.2.length := strOfNums_size _
          have hjn : j < n := by have := (List.getElem?_eq_some_iff.1 ht2).1; have := Hn.out; omega
          clear ht1 hst2 ht2 h1 h4 hv
          subst hA
          go_wp2_with fail
          refine (hcls hcw).mono ?_
          rintro e w1 ⟨rfl, k1, hk1⟩
          have hc1 : Cut w1 C s (.slice (some ⟨b, off, none⟩) n cp) p := by subst hk1; exact hcw
          have Hk1 := Lib.hid hk1
          clear hk1
          go_wp2_with fail
          refine (hcls hc1).mono ?_
          rintro e w2 ⟨rfl, k2, hk2⟩
          have hc2 : Cut w2 C s (.slice (some ⟨b, off, none⟩) n cp) p := by subst hk2; exact hc1
          have hb2 : w2.cell? ⟨b, off + j * 2 + 1, none⟩ = some (.string (strOfNums t.2)) := by
            have e1 := Hk1.out
            have e2 := Hm.out
            subst hk2 e1 e2
            exact g2
          have Hk2 := Lib.hid hk2
          clear hk2
          have c257 := hc2.out
          by_cases hj40 : j = 40
          · subst hj40
            go_wp2_with fail
            go_ret
            have e1 := Hk1.out
            have e2 := Hm.out
            have e3 := Hk2.out
            subst e3 e1 e2
            exact ⟨q, t, rfl, Ht1.out, dr2 _ _ _ _⟩
          · have tj : ((j : Int) == 40) = false := by simp; omega
            go_wp2_with fail
            go_roundw
            case rel =>
              have e1 := Hk1.out
              have e2 := Hm.out
              have e3 := Hk2.out
              subst e3 e1 e2
              exact ⟨q + t.2.length, j + 1, by omega, Hst2.out.1, by go_num, by go_num, Hst2, dr2 _ _ _ _⟩
            case measure => simp [RowKit.intOf]; omega
end Go.Proofs.YtkdgomalhngagaaDoor
