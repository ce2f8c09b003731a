/- The walk of the state in a part that goes on. -/
import Derived.Test.YtkdgomalhngagaaDoorTkApart
import Derived.Test.YtkdgomalhngagaaDoorTkUpper
import Derived.Deep.DeepCutAuto
namespace Go.Proofs.YtkdgomalhngagaaDoor
open Go.RowKit Go.Lib

def CutAt (w : World) (C : Nat) (s : ByteArray) (A : Option Addr) (n c : Nat) (out : List Tok.Tk) (p : Int) : Prop := Cut w C s (.slice A n c) p ∧ w.ownsRow (C + 1) 31 2 (.slice A n c) n (TC out)
theorem CutAt.drewN {w : World} {C : Nat} {s : ByteArray} {A : Option Addr} {n c : Nat} {out : List Tok.Tk} {p : Int} (h : CutAt w C s A n c out p) (k : Nat) : CutAt (w.drewN k) C s A n c out p := h
/-- Does the part go on at a place? -/
def goesOn (s : ByteArray) (i : Nat) : Prop := Tok.snd (cAt s i) ∨ (Tok.isJ (cAt s i) ∧ Tok.snd (cAt s (i - 1)) ∧ Tok.snd (cAt s (i + 1)))
instance (s : ByteArray) (i : Nat) : Decidable (goesOn s i) := inferInstanceAs (Decidable (_ ∨ _))
theorem cls_J {x : Int} (hS : ¬ Tok.snd x) (h : Tok.isJ x) : clsN x = 4 := by
  unfold clsN
  rw [if_neg (fun g => hS (.inl g)), if_neg (fun g => hS (.inr g)), if_pos h]
theorem cls_nJ {x : Int} (h : ¬ Tok.isJ x) : clsN x ≠ 4 := by
  unfold clsN
  repeat' split <;> first | omega | contradiction | skip
set_option maxRecDepth 100000 in
set_option maxHeartbeats 4000000 in
theorem within_go {w : World} {C : Nat} {s : ByteArray} {out : List Tok.Tk} {p : Int} (h : CutT w C s out p) (hs : s.size ≤ 1000000) (i : Nat) (hi : i ≤ s.size) (h1 : 1 ≤ i) (hg : goesOn s i) :
    Calls Tryd.prog 36 #[.pointer (some ⟨C, 0, none⟩), .int .i64 (i : Int)] w (StepR C s true out p w) := by
  obtain ⟨A, n, c, hcut, hown, hlen⟩ := h
  have hS := fun {w' : World} (h : Cut w' C s (.slice A n c) p) => sound_at h (by omega) i
  have hK := fun {w' : World} (h : Cut w' C s (.slice A n c) p) => class_at h (by omega) i
  have hM := fun {w' : World} (h : Cut w' C s (.slice A n c) p) => sound_at h (by omega) (i - 1)
  have hN := fun {w' : World} (h : Cut w' C s (.slice A n c) p) => sound_at h (by omega) (i + 1)
  rw [show ((i - 1 : Nat) : Int) = (i : Int) - 1 by omega] at hM
  rw [show ((i + 1 : Nat) : Int) = (i : Int) + 1 by omega] at hN
  have Hown := Lib.hid hown
  have Hlen := Lib.hid hlen
  clear hown hlen
  by_cases hx : Tok.snd (cAt s i)
  · rw [decide_eq_true hx] at hS
    clear hg hx
    go_enter Tryd.func36, Tryd.ntmps36
    go_wp2_with fail
    refine (hS hcut).mono ?_
    rintro e w1 ⟨rfl, k, hk⟩
    have Hk := Lib.hid hk
    clear hk
    go_wp2_with fail
    go_ret
    have hk := Hk.out
    subst hk
    exact ⟨rfl, ⟨A, n, c, hcut, Hown.out, Hlen.out⟩, below_drewN (Below.refl C w) k⟩
  · obtain ⟨hJ, hm, hn⟩ := hg.resolve_left hx
    rw [decide_eq_false hx] at hS
    rw [cls_J hx hJ] at hK
    rw [decide_eq_true hm] at hM
    rw [decide_eq_true hn] at hN
    clear hg hx hJ hm hn
    go_enter Tryd.func36, Tryd.ntmps36
    go_wp2_with fail
    refine (hS hcut).mono ?_
    rintro e w1 ⟨rfl, k1, hk1⟩
    have hc1 : Cut w1 C s (.slice A n c) p := by subst hk1; exact hcut
    have Hk1 := Lib.hid hk1
    clear hk1
    go_wp2_with fail
    refine (hK hc1).mono ?_
    rintro e w2 ⟨rfl, k2, hk2⟩
    have hc2 : Cut w2 C s (.slice A n c) p := by subst hk2; exact hc1
    have Hk2 := Lib.hid hk2
    clear hk2
    go_wp2_with fail
    refine (hM hc2).mono ?_
    rintro e w3 ⟨rfl, k3, hk3⟩
    have hc3 : Cut w3 C s (.slice A n c) p := by subst hk3; exact hc2
    have Hk3 := Lib.hid hk3
    clear hk3
    go_wp2_with fail
    refine (hN hc3).mono ?_
    rintro e w4 ⟨rfl, k4, hk4⟩
    have hc4 : Cut w4 C s (.slice A n c) p := by subst hk4; exact hc3
    have Hk4 := Lib.hid hk4
    clear hk4
    go_wp2_with fail
    go_ret
    have e1 := Hk1.out
    have e2 := Hk2.out
    have e3 := Hk3.out
    have e4 := Hk4.out
    subst e1 e2 e3 e4
    exact ⟨rfl, ⟨A, n, c, hcut, Hown.out, Hlen.out⟩, below_drewN (below_drewN (below_drewN (below_drewN (Below.refl C w) k1) k2) k3) k4⟩
end Go.Proofs.YtkdgomalhngagaaDoor
