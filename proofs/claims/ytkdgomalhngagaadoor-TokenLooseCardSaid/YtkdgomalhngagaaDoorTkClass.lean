/- The walks of the cutter's class and sound. -/
import Derived.Test.YtkdgomalhngagaaDoorTkBase
namespace Go.Proofs.YtkdgomalhngagaaDoor
open Go.RowKit Go.Lib

theorem cls_out : clsN 0 = 0 := by decide
theorem cls_byte (c : Int) : 0 ≤ clsN c ∧ clsN c ≤ 6 := by unfold clsN; repeat' split <;> first | omega | skip
set_option maxRecDepth 100000 in
set_option maxHeartbeats 2000000 in
theorem class_at {w : World} {C : Nat} {s : ByteArray} {sl : Value} {p : Int} (h : Cut w C s sl p) (hs : s.size ≤ 9223372036854775807) (i : Nat) :
    Calls Tryd.prog 35 #[.pointer (some ⟨C, 0, none⟩), .int .i64 (i : Int)] w fun e w' => e = .returned (.int .u8 (clsN (cAt s i))) ∧ ∃ k, w' = w.drewN k := by
  have c0 := h.str
  by_cases hi : i < s.size
  · have hg := cAt_get s i hi
    have hq : s[i].toNat < 256 := s[i].toNat_lt
    have c1 := h.cls hq
    have hd : decide ((i : Int) ≥ (s.size : Int)) = false := decide_eq_false (by omega)
    rw [hg]
    clear hg
    go_enter Tryd.func35, Tryd.ntmps35
    go_wp2_with fail
    go_quiet (fail)
    go_wp2_with fail
    go_ret
    exact ⟨rfl, _, rfl⟩
  · have hd : decide ((i : Int) ≥ (s.size : Int)) = true := decide_eq_true (by omega)
    rw [cAt_out s i (by omega), cls_out]
    go_enter Tryd.func35, Tryd.ntmps35
    go_wp2_with fail
    go_ret
    exact ⟨rfl, 0, rfl⟩
theorem cls_L {c : Int} (h : Tok.isL c) : clsN c = 2 := by unfold clsN; rw [if_pos h]
theorem cls_D {c : Int} (h : Tok.isD c) : clsN c = 3 := by unfold clsN; rw [if_neg (by unfold Tok.isL; unfold Tok.isD at h; omega), if_pos h]
theorem cls_not {c : Int} (h : ¬ Tok.snd c) : clsN c ≠ 2 ∧ clsN c ≠ 3 := by
  have h1 : ¬ Tok.isL c := fun g => h (.inl g)
  have h2 : ¬ Tok.isD c := fun g => h (.inr g)
  unfold clsN
  rw [if_neg h1, if_neg h2]
  repeat' split <;> first | omega | skip
set_option maxRecDepth 100000 in
set_option maxHeartbeats 2000000 in
theorem sound_at {w : World} {C : Nat} {s : ByteArray} {sl : Value} {p : Int} (h : Cut w C s sl p) (hs : s.size ≤ 9223372036854775807) (i : Nat) :
    Calls Tryd.prog 43 #[.pointer (some ⟨C, 0, none⟩), .int .i64 (i : Int)] w fun e w' => e = .returned (.bool (decide (Tok.snd (cAt s i)))) ∧ ∃ k, w' = w.drewN k := by
  have c0 := h.str
  have h0 : decide ((i : Int) ≥ 0) = true := decide_eq_true (by omega)
  by_cases hi : i < s.size
  · have hg := cAt_get s i hi
    have hq : s[i].toNat < 256 := s[i].toNat_lt
    have c1 := h.cls hq
    have hd : decide ((i : Int) < (s.size : Int)) = true := decide_eq_true (by omega)
    rw [hg]
    clear hg
    by_cases hL : Tok.isL (s[i].toNat : Int)
    · rw [cls_L hL] at c1
      rw [decide_eq_true (show Tok.snd (s[i].toNat : Int) from .inl hL)]
      clear hL
      go_enter Tryd.func43, Tryd.ntmps43
      go_wp2_with fail
      go_quiet (fail)
      go_wp2_with fail
      go_ret
      exact ⟨rfl, _, rfl⟩
    · by_cases hD : Tok.isD (s[i].toNat : Int)
      · rw [cls_D hD] at c1
        rw [decide_eq_true (show Tok.snd (s[i].toNat : Int) from .inr hD)]
        clear hL hD
        go_enter Tryd.func43, Tryd.ntmps43
        go_wp2_with fail
        go_quiet (fail)
        go_wp2_with fail
        go_ret
        exact ⟨rfl, _, rfl⟩
      · have hn : ¬ Tok.snd (s[i].toNat : Int) := fun g => g.elim hL hD
        obtain ⟨n2, n3⟩ := cls_not hn
        rw [decide_eq_false hn]
        generalize clsN (s[i].toNat : Int) = v at *
        have t2 : (v == 2) = false := by simpa using n2
        have t3 : (v == 3) = false := by simpa using n3
        clear hL hD hn n2 n3
        go_enter Tryd.func43, Tryd.ntmps43
        go_wp2_with fail
        go_quiet (fail)
        go_wp2_with fail
        go_ret
        exact ⟨rfl, _, rfl⟩
  · have hd : decide ((i : Int) < (s.size : Int)) = false := decide_eq_false (by omega)
    rw [cAt_out s i (by omega), decide_eq_false (by decide)]
    go_enter Tryd.func43, Tryd.ntmps43
    go_wp2_with fail
    go_quiet (fail)
    go_wp2_with fail
    go_ret
    exact ⟨rfl, _, rfl⟩
end Go.Proofs.YtkdgomalhngagaaDoor
