/- Lemmas for it; no condition: TFil6 TFil7 TFilL TLed. -/
import Derived.Test.YthmhdaefkhcenaaGreatDoorZ08
import Derived.Test.YthmhdaefkhcenaaGreatDoorZ11
import Derived.Test.YthmhdaefkhcenaaGreatDoorZ16
import Derived.Test.YthmhdaefkhcenaaGreatDoorZ32
set_option linter.unusedVariables false
set_option linter.unusedSimpArgs false
namespace Go.Proofs.YthmhdaefkhcenaaGreatDoor
set_option maxRecDepth 100000
set_option maxHeartbeats 8000000
open Go.RowKit Go.Lib Go.MapKept Go.Maps Go.Sort Go.Shelf

def kD : DataW Unit := .map [(.string [99, 111, 110, 102, 105, 103], .lit (.bool true)), (.string [108, 111, 103], .lit (.bool true))]
theorem own_fs3 {w : World} {md f g : Nat} (hM : MapAt w md (fs3 f g) 3) : w.ownsMap Tryz.prog 9 (fun _ => some (.lit (.bool true), [])) md 2 kD := by
  refine ⟨(fs3 f g).toArray, 3, hM, ⟨by simp [fs3, maxLen], ⟨?_, ?_, ?_⟩, ?_⟩, by simp [fs3], by kernel_rfl⟩
  · intro x hx
    simp [fs3, fE, mEnt] at hx
    rcases hx with rfl | rfl <;> simp
  · simp [fs3, fE, mEnt]
  · simp [fs3, fE, mEnt]
  · intro x hx
    simp [fs3] at hx
    rcases hx with rfl | rfl
    · exact ⟨(.string [108, 111, 103], .lit (.bool true)), by kernel_rfl⟩
    · exact ⟨(.string [99, 111, 110, 102, 105, 103], .lit (.bool true)), by kernel_rfl⟩
theorem srt1 : ([[99, 111, 110, 102, 105, 103], [108, 111, 103]] : List (List UInt8)).mergeSort (fun x y => decide (x ≤ y)) = [[99, 111, 110, 102, 105, 103], [108, 111, 103]] := by
  have h : decide (([99, 111, 110, 102, 105, 103] : List UInt8) ≤ [108, 111, 103]) = true := by decide
  rw [List.mergeSort]
  simp [List.MergeSort.Internal.splitInTwo, List.mergeSort_singleton, h]
theorem srt2 : ([[108, 111, 103], [99, 111, 110, 102, 105, 103]] : List (List UInt8)).mergeSort (fun x y => decide (x ≤ y)) = [[99, 111, 110, 102, 105, 103], [108, 111, 103]] := by
  have h : decide (([108, 111, 103] : List UInt8) ≤ [99, 111, 110, 102, 105, 103]) = false := by decide
  rw [List.mergeSort]
  simp [List.MergeSort.Internal.splitInTwo, List.mergeSort_singleton, h]
theorem sorted_two {ss : List (List UInt8)} (h : ss.Perm (strKeys kD)) : ss.length = 2 ∧ (ss.mergeSort (fun x y => decide (x ≤ y))).map encStr = [(.string ⟨#[99, 111, 110, 102, 105, 103]⟩), (.string ⟨#[108, 111, 103]⟩)] := by
  have hl := h.length_eq
  have hk : strKeys kD = [[99, 111, 110, 102, 105, 103], [108, 111, 103]] := rfl
  rw [hk] at h hl
  rcases ss with _ | ⟨x, _ | ⟨y, _ | ⟨z, t⟩⟩⟩
  · simp at hl
  · simp at hl
  · have hx : x = [99, 111, 110, 102, 105, 103] ∨ x = [108, 111, 103] := by simpa using h.mem_iff.1 (List.mem_cons_self (a := x) (l := [y]))
    have hy : y = [99, 111, 110, 102, 105, 103] ∨ y = [108, 111, 103] := by simpa using h.mem_iff.1 (show y ∈ [x, y] by simp)
    rcases hx with rfl | rfl <;> rcases hy with rfl | rfl
    · have := h.mem_iff.2 (show [108, 111, 103] ∈ _ by simp)
      simp at this
    · exact ⟨rfl, by rw [srt1]; rfl⟩
    · exact ⟨rfl, by rw [srt2]; rfl⟩
    · have := h.mem_iff.2 (show [99, 111, 110, 102, 105, 103] ∈ _ by simp)
      simp at this
  · simp at hl
theorem names_fs3 (d md f g : Nat) (a b c : Value) (w : World) (hD : Block w d 70 [.map (some md), a, b, c]) (hM : MapAt w md (fs3 f g) 3) :
    Calls Tryz.prog 24 #[.pointer (some ⟨d, 0, none⟩)] w fun e w' => ∃ n c, e = .returned (.slice (some ⟨n, 0, none⟩) 2 c) ∧ w.heap.size ≤ n ∧ Has w' n [(.string ⟨#[99, 111, 110, 102, 105, 103]⟩), (.string ⟨#[108, 111, 103]⟩)] ∧ Below w.heap.size w w' := by
  go_enter Tryz.func24, Tryz.ntmps24
  go_wp2_with fail
  refine (none_disk d md a b c w hD).mono ?_
  rintro e w1 ⟨rfl, hb1⟩
  have D1 := hD.call hb1
  obtain ⟨kl, kf, k0, k1, k2, k3⟩ := D1.c4
  go_wp2_with fail
  refine callsIn_wide.1 ((Tryz.maps_Keys_54 (some md) w1).mono ?_)
  rintro e w2 ⟨rfl, rfl⟩
  go_wp2_with fail
  refine callsIn_wide.1 ((Tryz.slices_Sorted_keys_53_54 md 2 kD _ w1 (own_fs3 (hM.call hb1)) (by decide) (by decide)).mono ?_)
  rintro e w3 ⟨v, ss, rfl, hS, hrow, hnil, hb3⟩
  obtain ⟨hl, hm⟩ := sorted_two hS
  rw [hl, hm] at hrow
  obtain ⟨A, c, rfl, _⟩ := own_form hrow
  obtain ⟨n, rfl, hn, _, hH⟩ := own_has hrow (by omega)
  go_wp2_with fail
  go_returns
  refine ⟨n, c, rfl, ?_, hH, ?_⟩
  · have := hb1.size
    simp at hn
    omega
  · exact bel_call (bel_alloc hb1 _) hb3
def File (w : World) (f : Nat) (xs : List Int) : Prop := ∃ sv, Block w f 131 [sv, .slice none 0 0] ∧ SafeV w w.heap.size sv xs
theorem SafeV.up {w : World} {B C : Nat} {sv : Value} {xs : List Int} (h : SafeV w B sv xs) (hB : B ≤ C) : SafeV w C sv xs := by
  rcases h with h | ⟨a, c, h1, h2, h3⟩
  · exact .inl h
  · exact .inr ⟨a, c, h1, h2, h3.up hB⟩
theorem SafeV.of_own {w : World} {base n c : Nat} {A : Option Addr} {xs : List Int} (h : w.ownsRow base 5 1 (.slice A n c) n (U8 xs)) (hn : n = xs.length) (h0 : 0 < n) : SafeV w w.heap.size (.slice A n c) xs := by
  subst hn
  obtain ⟨g, rfl, _, _, _⟩ := own_has h h0
  exact .inr ⟨⟨g, 0, none⟩, c, rfl, h0, Shows.of_own h⟩
theorem File.lt {w : World} {f : Nat} {xs : List Int} (h : File w f xs) : f < w.heap.size := by
  obtain ⟨sv, h1, _⟩ := h
  exact h1.lt
theorem File.call {w w' : World} {f : Nat} {xs : List Int} (h : File w f xs) (hb : Below w.heap.size w w') : File w' f xs := by
  obtain ⟨sv, h1, h2⟩ := h
  exact ⟨sv, h1.call hb, (h2.call hb (Nat.le_refl _)).up hb.size⟩
theorem File.kept {w w' : World} {f : Nat} {X : List Nat} {xs : List Int} (h : File w f xs) (hK : Kept X w w') (hf : f ∉ X) (hX : ∀ g ∈ X, NoU8 w g) : File w' f xs := by
  obtain ⟨sv, h1, h2⟩ := h
  exact ⟨sv, h1.keptX hK hf, (h2.kept8 hK (Nat.le_refl _) hX).up hK.size⟩
theorem File.noU8 {w : World} {f : Nat} {xs : List Int} (h : File w f xs) : NoU8 w f := by
  obtain ⟨sv, h1, h2⟩ := h
  refine NoU8.of_block h1 ?_
  rcases h2 with ⟨rfl, _⟩ | ⟨a, c, rfl, _⟩ <;> simp
theorem File.ne {w : World} {f h : Nat} {t : TypeId} {xs : List Int} {ds : List Value} (hF : File w f xs) (hh : Block w h t ds) (ht : t ≠ 131) : f ≠ h := by
  obtain ⟨sv, h1, _⟩ := hF
  exact h1.ne_type hh ht.symm
theorem File.ne_map {w : World} {f m c : Nat} {xs : List Int} {es : List MapEntry} (hF : File w f xs) (hM : MapAt w m es c) : f ≠ m := by
  obtain ⟨sv, h1, _⟩ := hF
  exact h1.ne_map hM
theorem settle_file (f : Nat) (u : Int) (xs : List Int) (w : World) (hF : File w f xs) (h0 : 0 < xs.length) (hn : xs.length ≤ 1000000) :
    Calls Tryz.prog 26 #[.pointer (some ⟨f, 0, none⟩), .int .i64 u] w fun e w' => e = .returned (.tuple #[]) ∧ File w' f xs ∧ Kept [f] w w' := by
  obtain ⟨sv, h1, h2⟩ := hF
  refine (settle0 f w.heap.size u sv xs w h1 h2 (Nat.le_refl _) hn).mono ?_
  rintro e w' ⟨A, c, rfl, F', O', kp⟩
  exact ⟨rfl, ⟨_, F', SafeV.of_own O' rfl h0⟩, kp⟩
theorem loose_file (f : Nat) (xs : List Int) (w : World) (hF : File w f xs) : Calls Tryz.prog 25 #[.pointer (some ⟨f, 0, none⟩)] w fun e w' => e = .returned (.int .i64 0) ∧ Below w.heap.size w w' := by
  obtain ⟨sv, h1, _⟩ := hF
  exact loose0 f sv w h1
theorem crash_fs3 (d md f g kb kc : Nat) (i st : Int) (xl xc : List Int) (w : World) (hD : Block w d 70 [.map (some md), .int .i64 st, .int .i64 (-1), .bool false]) (hM : MapAt w md (fs3 f g) 3) (hF : File w f xl) (hG : File w g xc)
    (hk : Has w kb [.int .i64 i, .int .i64 i, .int .i64 i]) (hfg : f ≠ g) (l0 : 0 < xl.length) (l1 : xl.length ≤ 1000000) (m0 : 0 < xc.length) (m1 : xc.length ≤ 1000000) :
    Calls Tryz.prog 13 #[.pointer (some ⟨d, 0, none⟩), .slice (some ⟨kb, 0, none⟩) 3 kc] w fun e w' => e = .returned (.int .i64 0) ∧ Block w' d 70 [.map (some md), .int .i64 st, .int .i64 (-1), .bool false] ∧ MapAt w' md (fs3 f g) 3 ∧ File w' f xl ∧ File w' g xc ∧ Kept [d, f, g] w w' := by
  go_enter Tryz.func13, Tryz.ntmps13
  go_wp2_with fail
  refine (none_disk d md _ _ _ w hD).mono ?_
  rintro e w1 ⟨rfl, hb1⟩
  go_wp2_with fail
  refine (names_fs3 d md f g _ _ _ w1 (hD.call hb1) (hM.call hb1)).mono ?_
  rintro e w2 ⟨n, c, rfl, hn, hN, hb2⟩
  have bel2 := bel_call hb1 hb2
  have D2 := hD.call bel2
  have M2 := hM.call bel2
  have F2 := hF.call bel2
  have G2 := hG.call bel2
  have K2 := hk.call bel2
  have lk1 := file_hit M2 (find3_cfg f g)
  have Np := hN
  have kp2 := K2
  have nl := Np.lt; have n0 := Np.cell (j := 0) rfl; have n1 := Np.cell (j := 1) rfl
  have ql := kp2.lt; have q0 := kp2.cell (j := 0) rfl; have q1 := kp2.cell (j := 1) rfl; have q2 := kp2.cell (j := 2) rfl
  obtain ⟨kl, kf, k0, k1, k2, k3⟩ := D2.c4
  go_wp2_with fail
  refine wp_loop_rounds 3 ?_
  rw [rounds_succ]
  go_wp2_with fail
  refine (loose_file g xc w2 G2).mono ?_
  rintro e w3 ⟨rfl, hb3⟩
  have G3 := G2.call hb3
  have K3 := K2.call hb3
  have N3 := hN.call hb3
  have D3 := D2.call hb3
  have M3 := M2.call hb3
  have F3 := F2.call hb3
  have qm : Int.tmod i 1 = 0 := Int.tmod_one i
  clear n0 n1 nl q0 q1 q2 ql Np kp2 k0 k1 k2 k3 kl kf lk1
  have kp3 := K3
  have ql := kp3.lt; have q0 := kp3.cell (j := 0) rfl; have q1 := kp3.cell (j := 1) rfl; have q2 := kp3.cell (j := 2) rfl
  go_wp2_with fail
  refine (settle_file g _ xc w3 G3 m0 m1).mono ?_
  rintro e w4 ⟨rfl, G4, kp4⟩
  clear q0 q1 q2 ql kp3
  have hgd : g ≠ d := hG.ne hD (by decide)
  have hfd : f ≠ d := hF.ne hD (by decide)
  have gl := hG.lt
  have z2 := bel2.size
  have z3 := hb3.size
  have z1 := hb1.size
  have hkg : kb ≠ g := by
    rintro rfl
    obtain ⟨sv, h1, h2⟩ := hG
    have h3 := h1.cell 0
    rw [hk.cell (j := 0) rfl] at h3
    rcases h2 with ⟨rfl, _⟩ | ⟨_, _, rfl, _⟩ <;> simp at h3
  have X4 : ∀ h ∈ [g], NoU8 w3 h := by
    intro h hh
    simp at hh
    subst hh
    exact G3.noU8
  have F4 := F3.kept kp4 (by simpa using hfg) X4
  have D4 := D3.keptX kp4 (by simpa using hgd.symm)
  have M4 := M3.keptX kp4 (by simpa using (hG.ne_map hM).symm)
  have N4 := N3.keptX kp4 (by simp; omega)
  have K4 := K3.keptX kp4 (by simpa using hkg)
  have lk2 := file_hit M4 (find3_log f g)
  have Np := N4
  have Kp := K4
  have nl := Np.lt; have n0 := Np.cell (j := 0) rfl; have n1 := Np.cell (j := 1) rfl
  have ql := Kp.lt; have q0 := Kp.cell (j := 0) rfl; have q1 := Kp.cell (j := 1) rfl; have q2 := Kp.cell (j := 2) rfl
  obtain ⟨kl, kf, k0, k1, k2, k3⟩ := D4.c4
  go_wp2_with fail
  rw [rounds_succ]
  go_wp2_with fail
  refine (loose_file f xl w4 F4).mono ?_
  rintro e w5 ⟨rfl, hb5⟩
  have F5 := F4.call hb5
  have K5 := K4.call hb5
  have N5 := N4.call hb5
  have D5 := D4.call hb5
  have M5 := M4.call hb5
  have G5 := G4.call hb5
  clear n0 n1 nl q0 q1 q2 ql Np Kp k0 k1 k2 k3 kl kf lk2
  have Kp := K5
  have ql := Kp.lt; have q0 := Kp.cell (j := 0) rfl; have q1 := Kp.cell (j := 1) rfl; have q2 := Kp.cell (j := 2) rfl
  go_wp2_with fail
  refine (settle_file f _ xl w5 F5 l0 l1).mono ?_
  rintro e w6 ⟨rfl, F6, kp6⟩
  have X6 : ∀ h ∈ [f], NoU8 w5 h := by
    intro h hh
    simp at hh
    subst hh
    exact F5.noU8
  have D6 := D5.keptX kp6 (by simpa using hfd.symm)
  have M6 := M5.keptX kp6 (by simpa using (hF.ne_map hM).symm)
  have G6 := G5.kept kp6 (by simpa using hfg.symm) X6
  clear q0 q1 q2 ql Kp
  have Dp := D6
  obtain ⟨kl, kf, k0, k1, k2, k3⟩ := Dp.c4
  go_wp2_with fail
  rw [rounds_succ]
  go_wp2_with fail
  go_returns
  have kp7 : Kept [d] w6 ((w6.setCell ⟨d, 2, none⟩ (.int .i64 (-1))).setCell ⟨d, 3, none⟩ (.bool false)) := ((Kept.refl _ _).set (by simp) _).set (by simp) _
  have X7 : ∀ h ∈ [d], NoU8 w6 h := by
    intro h hh
    simp at hh
    subst hh
    exact NoU8.of_block D6 (by simp)
  refine ⟨by first | rfl | simp, (D6.set 2 _).set 3 _, (M6.set _ _).set _ _, F6.kept kp7 (by simpa using hfd) X7, G6.kept kp7 (by simpa using hgd) X7, ?_⟩
  exact (((((Kept.of_below (X := [d, f, g]) bel2).behind hb3).trans kp4 (by simp)).behind hb5).trans kp6 (by simp)).trans kp7 (by simp)
end Go.Proofs.YthmhdaefkhcenaaGreatDoor
namespace Go.Proofs.YthmhdaefkhcenaaGreatDoor
set_option maxRecDepth 100000
set_option maxHeartbeats 8000000
open Go.RowKit Go.Lib Go.MapKept

def DiskAt (w : World) (d md : Nat) (es : List MapEntry) (cl : Nat) : Prop := (∃ st : Int, Block w d 70 [.map (some md), .int .i64 st, .int .i64 (-1), .bool false]) ∧ MapAt w md es cl
theorem DiskAt.call {w w' : World} {d md cl : Nat} {es : List MapEntry} (h : DiskAt w d md es cl) (hb : Below w.heap.size w w') : DiskAt w' d md es cl := by
  obtain ⟨⟨st, h1⟩, h2⟩ := h
  exact ⟨⟨st, h1.call hb⟩, h2.call hb⟩
theorem DiskAt.keptX {w w' : World} {d md cl : Nat} {X : List Nat} {es : List MapEntry} (h : DiskAt w d md es cl) (hK : Kept X w w') (h1 : d ∉ X) (h2 : md ∉ X) : DiskAt w' d md es cl := by
  obtain ⟨⟨st, h3⟩, h4⟩ := h
  exact ⟨⟨st, h3.keptX hK h1⟩, h4.keptX hK h2⟩
theorem DiskAt.ne {w : World} {d md cl : Nat} {es : List MapEntry} (h : DiskAt w d md es cl) : d ≠ md := by
  obtain ⟨⟨st, h1⟩, h2⟩ := h
  exact h1.ne_map h2
theorem DiskAt.lt {w : World} {d md cl : Nat} {es : List MapEntry} (h : DiskAt w d md es cl) : d < w.heap.size ∧ md < w.heap.size := by
  obtain ⟨⟨st, h1⟩, h2⟩ := h
  exact ⟨h1.lt, h2.lt⟩
theorem DiskAt.noU8 {w : World} {d md cl : Nat} {es : List MapEntry} (h : DiskAt w d md es cl) : NoU8 w d ∧ NoU8 w md := by
  obtain ⟨⟨st, h1⟩, h2⟩ := h
  exact ⟨NoU8.of_block h1 (by simp), NoU8.of_map h2⟩
theorem DiskAt.file {w : World} {d md cl f : Nat} {es : List MapEntry} {xs : List Int} (h : DiskAt w d md es cl) (hF : File w f xs) : f ≠ d ∧ f ≠ md := by
  obtain ⟨⟨st, h1⟩, h2⟩ := h
  exact ⟨hF.ne h1 (by decide), hF.ne_map h2⟩
def FileMore (w : World) (f : Nat) (xs ys : List Int) : Prop := ∃ sv lb lc A c, Block w f 131 [sv, .slice (some ⟨lb, 0, none⟩) 1 lc] ∧ Has w lb [.iface 202 (.slice A ys.length c)] ∧ SafeV w w.heap.size sv xs ∧ Shows w w.heap.size 1 A ys.length (U8 ys) ∧ ys.length ≤ c ∧ 0 < ys.length
theorem read_file (d md f i cl : Nat) (es : List MapEntry) (s : ByteArray) (xs : List Int) (w : World) (hD : DiskAt w d md es cl) (hf : Instr.findNow .string (.string s) es 0 = some (some (i, .pointer (some ⟨f, 0, none⟩)))) (hF : File w f xs) (hn : xs.length ≤ 1000000) :
    Calls Tryz.prog 56 #[.pointer (some ⟨d, 0, none⟩), .string s] w fun e w' => ∃ A' c', e = .returned (.tuple #[.slice A' xs.length c', .int .i64 0]) ∧ w'.ownsRow w.heap.size 5 1 (.slice A' xs.length c') xs.length (U8 xs) ∧ Below w.heap.size w w' := by
  obtain ⟨⟨st, h1⟩, h2⟩ := hD
  obtain ⟨sv, h3, h4⟩ := hF
  exact read_hit d md f i cl w.heap.size st es s sv xs w h1 h2 hf h3 h4 (Nat.le_refl _) hn
theorem read_none (d md cl : Nat) (es : List MapEntry) (s : ByteArray) (w : World) (hD : DiskAt w d md es cl) (hf : Instr.findNow .string (.string s) es 0 = some none) :
    Calls Tryz.prog 56 #[.pointer (some ⟨d, 0, none⟩), .string s] w fun e w' => e = .returned (.tuple #[.slice none 0 0, .int .i64 6]) ∧ Below w.heap.size w w' := by
  obtain ⟨⟨st, h1⟩, h2⟩ := hD
  exact read_miss d md cl st es s w h1 h2 hf
theorem sync_file (d md f i cl : Nat) (es : List MapEntry) (s : ByteArray) (xs : List Int) (w : World) (hD : DiskAt w d md es cl) (hf : Instr.findNow .string (.string s) es 0 = some (some (i, .pointer (some ⟨f, 0, none⟩)))) (hF : File w f xs) (h0 : 0 < xs.length) (hn : xs.length ≤ 1000000) :
    Calls Tryz.prog 42 #[.pointer (some ⟨d, 0, none⟩), .string s] w fun e w' => e = .returned (.int .i64 0) ∧ DiskAt w' d md es cl ∧ File w' f xs ∧ Kept [d, f] w w' := by
  have hn1 := hD.ne
  have hn2 := hF.ne_map hD.2
  obtain ⟨⟨st, h1⟩, h2⟩ := hD
  obtain ⟨sv, h3, h4⟩ := hF
  refine (sync0 d md f i cl w.heap.size st es s sv xs w h1 h2 hf h3 h4 (Nat.le_refl _) hn).mono ?_
  rintro e w' ⟨rfl, A, c, st', D', F', O', kp⟩
  exact ⟨rfl, ⟨⟨_, D'⟩, h2.keptX kp (by simp; exact ⟨hn1.symm, hn2.symm⟩)⟩, ⟨_, F', SafeV.of_own O' rfl h0⟩, kp⟩
theorem sync_more (d md f i cl : Nat) (es : List MapEntry) (s : ByteArray) (xs ys : List Int) (w : World) (hD : DiskAt w d md es cl) (hf : Instr.findNow .string (.string s) es 0 = some (some (i, .pointer (some ⟨f, 0, none⟩)))) (hF : FileMore w f xs ys) (hn : xs.length + ys.length ≤ 1000000) :
    Calls Tryz.prog 42 #[.pointer (some ⟨d, 0, none⟩), .string s] w fun e w' => e = .returned (.int .i64 0) ∧ DiskAt w' d md es cl ∧ File w' f (xs ++ ys) ∧ Kept [d, f] w w' := by
  have hn1 := hD.ne
  obtain ⟨⟨st, h1⟩, h2⟩ := hD
  obtain ⟨sv, lb, lc, A, c, h3, h4, h5, h6, h7, h8⟩ := hF
  have hn2 := h3.ne_map h2
  have hld : lb ≠ d := by
    rintro rfl
    have h9 := h1.cell 0
    rw [h4.cell (j := 0) rfl] at h9
    simp at h9
  refine (sync1 d md f i cl w.heap.size lb lc ys.length c A st es s sv xs ys w h1 h2 hf h3 h4 h5 h6 h7 h8 (Nat.le_refl _) hld hn).mono ?_
  rintro e w' ⟨rfl, A', c', st', D', F', O', kp⟩
  exact ⟨rfl, ⟨⟨_, D'⟩, h2.keptX kp (by simp; exact ⟨hn1.symm, hn2.symm⟩)⟩, ⟨_, F', SafeV.of_own O' (by simp) (by omega)⟩, kp⟩
theorem append_none (d md cl : Nat) (es : List MapEntry) (s : ByteArray) (w : World) (hD : DiskAt w d md es cl) (hnm : ∀ w, Calls Tryz.prog 85 #[.string s] w fun e w' => e = .returned (.bool true) ∧ Below w.heap.size w w') (hf : Instr.findNow .string (.string s) es 0 = some none) (hes : es.length ≤ 15) :
    Calls Tryz.prog 40 #[.pointer (some ⟨d, 0, none⟩), .string s, .slice none 0 0] w fun e w' => e = .returned (.int .i64 0) ∧ ∃ f, w.heap.size ≤ f ∧ DiskAt w' d md (es ++ [fE (.string s) f cl]) (cl + 1) ∧ File w' f [] ∧ Kept [d, md] w w' := by
  obtain ⟨⟨st, h1⟩, h2⟩ := hD
  refine (append1 d md cl st es s w h1 h2 hnm hf hes).mono ?_
  rintro e w' ⟨rfl, f, hf, st', D', M', F', kp⟩
  exact ⟨rfl, f, hf, ⟨⟨_, D'⟩, M'⟩, ⟨_, F', .inl ⟨rfl, rfl⟩⟩, kp⟩
theorem append_new (d md cl : Nat) (es : List MapEntry) (s : ByteArray) (A : Option Addr) (n c : Nat) (ys : List Int) (w : World) (hD : DiskAt w d md es cl) (hnm : ∀ w, Calls Tryz.prog 85 #[.string s] w fun e w' => e = .returned (.bool true) ∧ Below w.heap.size w w') (hf : Instr.findNow .string (.string s) es 0 = some none) (hes : es.length ≤ 15)
    (hY : Shows w w.heap.size 1 A n (U8 ys)) (h0 : 0 < n) (hn : n ≤ 500000) :
    Calls Tryz.prog 40 #[.pointer (some ⟨d, 0, none⟩), .string s, .slice A n c] w fun e w' => e = .returned (.int .i64 0) ∧ ∃ f, w.heap.size ≤ f ∧ DiskAt w' d md (es ++ [fE (.string s) f cl]) (cl + 1) ∧ FileMore w' f [] ys ∧ Kept [d, md] w w' := by
  obtain ⟨⟨st, h1⟩, h2⟩ := hD
  have hyl : n = ys.length := by simpa [U8] using hY.len.symm
  refine (append2 d md cl st es s A n c w.heap.size ys w h1 h2 hnm hf hes hY (Nat.le_refl _) h0 hn).mono ?_
  rintro e w' ⟨rfl, f, hf, st', D', M', lb, lc, A', c', F', L', O', hl, kp⟩
  subst hyl
  obtain ⟨_, _, e1, hc⟩ := own_form O'
  injection e1 with e1 e2 e3
  subst e3
  exact ⟨rfl, f, hf, ⟨⟨_, D'⟩, M'⟩, ⟨_, lb, lc, A', c', F', L', .inl ⟨rfl, rfl⟩, Shows.of_own O', hc.1, h0⟩, kp⟩
theorem append_file (d md f i cl : Nat) (es : List MapEntry) (s : ByteArray) (A : Option Addr) (n c : Nat) (xs ys : List Int) (w : World) (hD : DiskAt w d md es cl) (hnm : ∀ w, Calls Tryz.prog 85 #[.string s] w fun e w' => e = .returned (.bool true) ∧ Below w.heap.size w w') (hf : Instr.findNow .string (.string s) es 0 = some (some (i, .pointer (some ⟨f, 0, none⟩))))
    (hk : ∀ w, (Instr.keyThatStays (((es.toArray[i]?).map (·.key)).getD (.string s)) (.string s)).run Tryz.prog w = .ok (.string s) w) (he : es.toArray.modify i (fun e => { e with key := .string s, val := .pointer (some ⟨f, 0, none⟩) }) = es.toArray) (hF : File w f xs) (hxs : xs.length ≤ 500000) (hY : Shows w w.heap.size 1 A n (U8 ys)) (h0 : 0 < n) (hn : n ≤ 500000) :
    Calls Tryz.prog 40 #[.pointer (some ⟨d, 0, none⟩), .string s, .slice A n c] w fun e w' => e = .returned (.int .i64 0) ∧ DiskAt w' d md es cl ∧ FileMore w' f xs ys ∧ Kept [d, md, f] w w' := by
  have hu := hD.noU8
  have hu2 := hF.noU8
  obtain ⟨⟨st, h1⟩, h2⟩ := hD
  obtain ⟨sv, h3, h4⟩ := hF
  have hyl : n = ys.length := by simpa [U8] using hY.len.symm
  refine (append3 d md cl i st es s f w.heap.size sv xs A n c w.heap.size ys w h1 h2 hnm hf hk he h3 h4 (Nat.le_refl _) hxs hY (Nat.le_refl _) h0 hn).mono ?_
  rintro e w' ⟨rfl, st', D', M', lb, lc, A', c', F', L', O', hl, kp⟩
  subst hyl
  obtain ⟨_, _, e1, hc⟩ := own_form O'
  injection e1 with e1 e2 e3
  subst e3
  exact ⟨rfl, ⟨⟨_, D'⟩, M'⟩, ⟨_, lb, lc, A', c', F', L', (h4.kept8 kp (Nat.le_refl _) (by intro g hg; simp at hg; rcases hg with rfl | rfl | rfl <;> first | exact hu.1 | exact hu.2 | exact hu2)).up kp.size, Shows.of_own O', hc.1, h0⟩, kp⟩
theorem after0n (f : Nat) (u : Int) (w : World) (hF : Block w f 131 [.slice none 0 0, .slice none 0 0]) :
    Calls Tryz.prog 55 #[.pointer (some ⟨f, 0, none⟩), .int .i64 u] w fun e w' => e = .returned (.slice none 0 0) ∧ Below w.heap.size w w' := by
  have F0 := hF
  obtain ⟨kl, kf, k0, k1⟩ := F0.c2
  go_enter Tryz.func55, Tryz.ntmps55
  go_wp2_with fail
  refine (clone_b0 w).mono ?_
  rintro e w1 ⟨rfl, hb1⟩
  have F1 := hF.call hb1
  clear k0 k1 kl kf F0
  obtain ⟨kl, kf, k0, k1⟩ := F1.c2
  go_wp2_with fail
  refine wp_loop_rounds 1 ?_
  rw [rounds_succ]
  go_wp2_with fail
  exact ret_t rfl rfl rfl ⟨rfl, hb1⟩
theorem settle0n (f : Nat) (u : Int) (w : World) (hF : Block w f 131 [.slice none 0 0, .slice none 0 0]) :
    Calls Tryz.prog 26 #[.pointer (some ⟨f, 0, none⟩), .int .i64 u] w fun e w' => e = .returned (.tuple #[]) ∧ Block w' f 131 [.slice none 0 0, .slice none 0 0] ∧ Kept [f] w w' := by
  go_enter Tryz.func26, Tryz.ntmps26
  go_wp2_with fail
  refine (after0n f u w hF).mono ?_
  rintro e w1 ⟨rfl, hb1⟩
  have F1 := hF.call hb1
  have F2 := F1
  obtain ⟨kl, kf, k0, k1⟩ := F2.c2
  go_wp2_with fail
  go_end0
  exact ⟨rfl, (F1.set 0 _).set 1 _, ((Kept.of_below hb1).set (by simp) _).set (by simp) _⟩
theorem sync_in0n (f bx : Nat) (w : World) (hb : Block w bx 92 [.pointer (some ⟨f, 0, none⟩)]) (hF : Block w f 131 [.slice none 0 0, .slice none 0 0]) :
    Calls Tryz.prog 91 #[.pointer (some ⟨bx, 0, none⟩)] w fun e w' => e = .returned (.tuple #[]) ∧ Block w' f 131 [.slice none 0 0, .slice none 0 0] ∧ Kept [f] w w' := by
  have hbf : bx ≠ f := hb.ne_type hF (by decide)
  have hb0 := hb
  obtain ⟨bl, bf, b0⟩ := hb0.c1
  go_enter Tryz.func91, Tryz.ntmps91
  go_upto_region 0 with (fail)
  refine AnyBut.region (S := fun w' => w'.cell? ⟨bx, 0, none⟩ = some (.pointer (some ⟨f, 0, none⟩))) (t := 99) 4 rfl (by kernel_rfl) b0 ?_
  intro hS
  refine AnyBut.tk0 0 hS rfl (h := ?_); refine AnyBut.tk0 1 hS rfl (h := ?_)
  clear hS
  refine AnyBut.one (i := 2) rfl (by kernel_rfl) rfl ?_; intro K hKK
  go_wp2_with fail
  refine (loose0 f _ w.drew hF.drew).mono ?_
  rintro e w1 ⟨rfl, hb1⟩
  have bel1 : Below w.heap.size w w1 := bel_call (by exact sBel) hb1
  refine hKK _ _ ?_ ?_ <;> clear hKK K
  · exact (hb.call bel1).cell 0
  intro hS2
  clear hS2
  refine AnyBut.one (i := 3) rfl (by kernel_rfl) rfl ?_; intro K hKK
  go_wp2_with fail
  refine (settle0n f 0 w1 (hF.call bel1)).mono ?_
  rintro e w2 ⟨rfl, F2, kp2⟩
  refine hKK _ _ ?_ ?_ <;> clear hKK K
  · exact ((hb.call bel1).keptX kp2 (by simpa using hbf)).cell 0
  intro hS2
  refine AnyBut.done (by kernel_rfl) ?_
  first | go_end0 | (go_wp2; go_end0)
  exact ⟨rfl, F2, (Kept.of_below bel1).trans kp2 (by simp)⟩
theorem sync_nil (d md f i cl : Nat) (es : List MapEntry) (s : ByteArray) (w : World) (hD : DiskAt w d md es cl) (hf : Instr.findNow .string (.string s) es 0 = some (some (i, .pointer (some ⟨f, 0, none⟩)))) (hF : File w f []) :
    Calls Tryz.prog 42 #[.pointer (some ⟨d, 0, none⟩), .string s] w fun e w' => e = .returned (.int .i64 0) ∧ DiskAt w' d md es cl ∧ File w' f [] ∧ Kept [d, f] w w' := by
  have hnm := hD.ne
  have hfm := hF.ne_map hD.2
  obtain ⟨⟨st, hD⟩, hM⟩ := hD
  obtain ⟨sv, hF, hS⟩ := hF
  have hsv : sv = .slice none 0 0 := by
    rcases hS with h | ⟨a, c, h1, h2, h3⟩
    · exact h.1
    · simp at h2
  subst hsv
  clear hS
  go_enter Tryz.func42, Tryz.ntmps42
  go_wp2_with fail
  refine (open_hit d md f i cl st es s w hD hM hf).mono ?_
  rintro e w1 ⟨rfl, hb1⟩
  have z1 := hb1.size
  have dl := hD.lt
  have hfd : f ≠ d := hF.ne_type hD (by decide)
  go_wp2_with fail
  have bel2 : Below w.heap.size w (w1.alloc (.cells #[.pointer (some ⟨f, 0, none⟩)] 92)) := bel_alloc hb1 _
  have D2 := hD.call bel2
  have kp3 : Kept [d] (w1.alloc (.cells #[.pointer (some ⟨f, 0, none⟩)] 92)) ((w1.alloc (.cells #[.pointer (some ⟨f, 0, none⟩)] 92)).setCell ⟨d, 1, none⟩ (.int .i64 (wrap64 (st + 1)))) := (Kept.refl _ _).set (by simp) _
  have b3 : Block ((w1.alloc (.cells #[.pointer (some ⟨f, 0, none⟩)] 92)).setCell ⟨d, 1, none⟩ (.int .i64 (wrap64 (st + 1)))) w1.heap.size 92 [.pointer (some ⟨f, 0, none⟩)] := (btop (cs := [.pointer (some ⟨f, 0, none⟩)]) rfl).far (by show w1.heap.size ≠ d; omega) _
  have F3 := (hF.call bel2).far (p := ⟨d, 1, none⟩) hfd (.int .i64 (wrap64 (st + 1)))
  have M3 := (hM.call bel2).set ⟨d, 1, none⟩ (.int .i64 (wrap64 (st + 1)))
  refine (step_sync d md st _ _ (fun W => DiskAt W d md es cl ∧ File W f [] ∧ Kept [d, f] w W) D2 ?_).mono ?_
  · refine (sync_in0n f w1.heap.size _ b3 F3).mono ?_
    rintro e w4 ⟨rfl, F4, kp4⟩
    exact ⟨rfl, ⟨⟨_, (D2.set 1 _).keptX kp4 (by simpa using hfd.symm)⟩, M3.keptX kp4 (by simpa using hfm.symm)⟩, ⟨_, F4, .inl ⟨rfl, rfl⟩⟩, ((Kept.of_below bel2).trans kp3 (by simp)).trans kp4 (by simp)⟩
  · rintro e w4 ⟨rfl, hR⟩
    go_wp2_with fail
    go_returns
    exact ⟨by first | rfl | simp, hR⟩
end Go.Proofs.YthmhdaefkhcenaaGreatDoor
namespace Go.Proofs.YthmhdaefkhcenaaGreatDoor
open Go.RowKit Go.Lib Go.MapKept

def FileL (w : World) (lo f : Nat) (xs : List Int) : Prop := ∃ sv, Block w f 131 [sv, .slice none 0 0] ∧ ((sv = .slice none 0 0 ∧ xs = []) ∨ ∃ g c, sv = .slice (some ⟨g, 0, none⟩) xs.length c ∧ 0 < xs.length ∧ lo ≤ g ∧ Has w g (U8 xs))
theorem FileL.file {w : World} {lo f : Nat} {xs : List Int} (h : FileL w lo f xs) : File w f xs := by
  obtain ⟨sv, h1, h | ⟨g, c, h2, h3, h4, h5⟩⟩ := h
  · exact ⟨sv, h1, .inl h⟩
  · refine ⟨sv, h1, .inr ⟨⟨g, 0, none⟩, c, h2, h3, by simp [U8], fun _ => ⟨g, 0, rfl, h5.lt, fun j hj => ?_⟩⟩⟩
    rw [Nat.zero_add, h5.cell (v := (U8 xs)[j]) (List.getElem?_eq_getElem hj)]
    simp [List.getD, List.getElem?_eq_getElem hj]
theorem FileL.keptX {w w' : World} {lo f : Nat} {X : List Nat} {xs : List Int} (h : FileL w lo f xs) (hK : Kept X w w') (hf : f ∉ X) (hX : ∀ k ∈ X, k < lo ∨ w.heap.size ≤ k) : FileL w' lo f xs := by
  obtain ⟨sv, h1, h | ⟨g, c, h2, h3, h4, h5⟩⟩ := h
  · exact ⟨sv, h1.keptX hK hf, .inl h⟩
  · exact ⟨sv, h1.keptX hK hf, .inr ⟨g, c, h2, h3, h4, h5.keptX hK fun hm => by have := h5.lt; rcases hX g hm with h | h <;> omega⟩⟩
theorem FileL.low {w : World} {lo lo' f : Nat} {xs : List Int} (h : FileL w lo f xs) (hl : lo' ≤ lo) : FileL w lo' f xs := by
  obtain ⟨sv, h1, h | ⟨g, c, h2, h3, h4, h5⟩⟩ := h
  · exact ⟨sv, h1, .inl h⟩
  · exact ⟨sv, h1, .inr ⟨g, c, h2, h3, by omega, h5⟩⟩
theorem File.nilX {w w' : World} {f : Nat} {X : List Nat} (h : File w f []) (hK : Kept X w w') (hf : f ∉ X) : File w' f [] := by
  obtain ⟨sv, h1, h | ⟨a, c, h2, h3, h4⟩⟩ := h
  · exact ⟨sv, h1.keptX hK hf, .inl h⟩
  · simp at h3
theorem sync_moreL (d md f i cl : Nat) (es : List MapEntry) (s : ByteArray) (xs ys : List Int) (w : World) (hD : DiskAt w d md es cl) (hf : Instr.findNow .string (.string s) es 0 = some (some (i, .pointer (some ⟨f, 0, none⟩)))) (hF : FileMore w f xs ys) (hn : xs.length + ys.length ≤ 1000000) :
    Calls Tryz.prog 42 #[.pointer (some ⟨d, 0, none⟩), .string s] w fun e w' => e = .returned (.int .i64 0) ∧ DiskAt w' d md es cl ∧ FileL w' w.heap.size f (xs ++ ys) ∧ Kept [d, f] w w' := by
  have hn1 := hD.ne
  obtain ⟨⟨st, h1⟩, h2⟩ := hD
  obtain ⟨sv, lb, lc, A, c, h3, h4, h5, h6, h7, h8⟩ := hF
  have hn2 := h3.ne_map h2
  have hld : lb ≠ d := by
    rintro rfl
    have h9 := h1.cell 0
    rw [h4.cell (j := 0) rfl] at h9
    simp at h9
  refine (sync1 d md f i cl w.heap.size lb lc ys.length c A st es s sv xs ys w h1 h2 hf h3 h4 h5 h6 h7 h8 (Nat.le_refl _) hld hn).mono ?_
  rintro e w' ⟨rfl, A', c', st', D', F', O', kp⟩
  obtain ⟨g, rfl, hg, _, hH⟩ := own_has O' (by omega)
  exact ⟨rfl, ⟨⟨_, D'⟩, h2.keptX kp (by simp; exact ⟨hn1.symm, hn2.symm⟩)⟩, ⟨_, F', .inr ⟨g, c', by simp, by simp; omega, hg, hH⟩⟩, kp⟩
end Go.Proofs.YthmhdaefkhcenaaGreatDoor
namespace Go.Proofs.YthmhdaefkhcenaaGreatDoor
set_option maxRecDepth 100000
set_option maxHeartbeats 8000000
open Go.RowKit Go.Lib Go.MapKept

theorem leaves_congr {P : Program} {fn : Func} {t t' : Array Value} {R : Ending → World → Prop} (h : ∀ w, (results fn t).run P w = (results fn t').run P w) : ∀ (ds : List Deferred) (u : FrameMode) (w : World), Leaves P fn t R ds u w → Leaves P fn t' R ds u w
  | [], .returning, w, ⟨v, h1, h2⟩ => ⟨v, (h w).symm.trans h1, h2⟩
  | [], .panicking _, _, h1 => h1
  | _ :: ds, _, _, ⟨h0, fv, cap, f, args, ht, hi, hc⟩ => ⟨h0, fv, cap, f, args, ht, hi, hc.mono fun e u' w' h1 => by
      cases e with
      | returned v => exact leaves_congr h ds _ _ h1
      | panicked c => exact leaves_congr h ds _ _ h1
      | outgrown => exact h1⟩
theorem leaves_put {P : Program} {fn : Func} {R : Ending → World → Prop} {p : Tmp} {T : TypeId} (hr : fn.results = #[.cell p T]) {d : Tmp} {v : Value} (hd : d ≠ p) {a : Act} {u : FrameMode} {w : World} (h : Leaves P fn (a.put (some d) v).tmps R (a.put (some d) v).defers u w) : Leaves P fn a.tmps R a.defers u w := by
  refine leaves_congr (t := (a.put (some d) v).tmps) (fun w => ?_) _ _ _ h
  have e : (a.put (some d) v).tmps[p]? = a.tmps[p]? := by
    simp [Act.put, hd]
  simp only [results, hr]
  simp [Sem.run_bind, e]
theorem agg_no42 (w : World) : (isAgg 42).run Tryz.prog w = .ok false w := by kernel_rfl
theorem ledp_ne (l : Nat) (w : World) : (binOp .eql 98 (.pointer (some ⟨l, 0, none⟩)) (.pointer none)).run Tryz.prog w = .ok (.bool false) w := by kernel_rfl
theorem dskp_ne (l : Nat) (w : World) : (binOp .eql 24 (.pointer (some ⟨l, 0, none⟩)) (.pointer none)).run Tryz.prog w = .ok (.bool false) w := by kernel_rfl
theorem log_hk (f g : Nat) (w : World) : (Instr.keyThatStays ((((fs3 f g).toArray[0]?).map (·.key)).getD (.string ⟨#[108, 111, 103]⟩)) (.string ⟨#[108, 111, 103]⟩)).run Tryz.prog w = .ok (.string ⟨#[108, 111, 103]⟩) w := by kernel_rfl
theorem log_he (f g : Nat) : (fs3 f g).toArray.modify 0 (fun e => { e with key := (.string ⟨#[108, 111, 103]⟩), val := .pointer (some ⟨f, 0, none⟩) }) = (fs3 f g).toArray := rfl
def LedAt (w : World) (l d : Nat) : Prop := ∃ n s : Int, Block w l 222 [.pointer (some ⟨d, 0, none⟩), (.string ⟨#[108, 111, 103]⟩), .int .i64 n, .int .i64 s, .bool false]
theorem LedAt.call {w w' : World} {l d : Nat} (h : LedAt w l d) (hb : Below w.heap.size w w') : LedAt w' l d := by
  obtain ⟨n, s, h⟩ := h
  exact ⟨n, s, h.call hb⟩
theorem LedAt.keptX {w w' : World} {l d : Nat} {X : List Nat} (h : LedAt w l d) (hK : Kept X w w') (hl : l ∉ X) : LedAt w' l d := by
  obtain ⟨n, s, h⟩ := h
  exact ⟨n, s, h.keptX hK hl⟩
theorem LedAt.lt {w : World} {l d : Nat} (h : LedAt w l d) : l < w.heap.size := by
  obtain ⟨n, s, h⟩ := h
  exact h.lt
theorem LedAt.noU8 {w : World} {l d : Nat} (h : LedAt w l d) : NoU8 w l := by
  obtain ⟨n, s, h⟩ := h
  exact NoU8.of_block h (by simp)
theorem LedAt.ne_disk {w : World} {l d md d2 cl : Nat} {es : List MapEntry} (h : LedAt w l d2) (hD : DiskAt w d md es cl) : l ≠ d ∧ l ≠ md := by
  obtain ⟨n, s, h⟩ := h
  obtain ⟨⟨st, h1⟩, h2⟩ := hD
  exact ⟨h.ne_type h1 (by decide), h.ne_map h2⟩
theorem LedAt.ne_file {w : World} {l f d2 : Nat} {xs : List Int} (h : LedAt w l d2) (hF : File w f xs) : l ≠ f := by
  obtain ⟨n, s, h⟩ := h
  exact (hF.ne h (by decide)).symm
theorem none_led (l d : Nat) (w : World) (h : LedAt w l d) : Calls Tryz.prog 106 #[.pointer (some ⟨l, 0, none⟩)] w fun e w' => e = .returned (.bool false) ∧ Below w.heap.size w w' := by
  obtain ⟨n, s, h⟩ := h
  have h1 := ledp_ne
  have h2 := dskp_ne
  obtain ⟨kl, kf, k0, k1, k2, k3, k4⟩ := h.c5
  go_enter Tryz.func106, Tryz.ntmps106
  go_wp2
  exact ret_t rfl rfl rfl ⟨rfl, by exact sBel⟩
theorem add_def (x0 x1 x2 l d : Nat) (n s : Int) (w : World) (h0 : w.cell? ⟨x0, 0, none⟩ = some (.int .i64 0)) (h2 : w.cell? ⟨x2, 0, none⟩ = some (.pointer (some ⟨l, 0, none⟩))) (hL : Block w l 222 [.pointer (some ⟨d, 0, none⟩), (.string ⟨#[108, 111, 103]⟩), .int .i64 n, .int .i64 s, .bool false]) :
    CallsD Tryz.prog 108 #[.pointer (some ⟨x0, 0, none⟩), .pointer (some ⟨x1, 0, none⟩), .pointer (some ⟨x2, 0, none⟩)] .returning w fun e u' w' => u' = .returning ∧ (e = .returned (.tuple #[]) ∧ w' = w.setCell ⟨l, 4, none⟩ (.bool false)) := by
  obtain ⟨kl, kf, k0, k1, k2, k3, k4⟩ := hL.c5
  go_enter_d Tryz.func108, Tryz.ntmps108
  go_wp2_with fail
  first | go_end0 | refine bodyPost_ret (results_none rfl _ _ _) rfl ?_
  exact ⟨rfl, rfl⟩
theorem add_led (d md f g l : Nat) (A : Option Addr) (n c : Nat) (xl ys : List Int) (w : World) (hD : DiskAt w d md (fs3 f g) 3) (hF : File w f xl) (hLd : LedAt w l d) (hY : Shows w w.heap.size 1 A n (U8 ys)) (hb : ∀ x ∈ ys, 0 ≤ x ∧ x ≤ 255) (h0 : 0 < n) (hn : n ≤ 60000) (hxl : xl.length ≤ 400000) :
    Calls Tryz.prog 51 #[.pointer (some ⟨l, 0, none⟩), .slice A n c] w fun e w' => e = .returned (.int .i64 0) ∧ DiskAt w' d md (fs3 f g) 3 ∧ FileL w' w.heap.size f (xl ++ frameL ys) ∧ LedAt w' l d ∧ Kept [d, md, f, l] w w' := by
  have hmf : ∀ (fn : Fn) (first cap : Array Value) (w : World), (Instr.makeFunc fn first cap).run Tryz.prog w = .ok (.func fn first cap) w := fun _ _ _ _ => rfl
  go_enter_defers Tryz.func51, Tryz.ntmps51
  go_wp2_with fail
  refine (none_led l d _ ((hLd.call (bel_alloc (Below.refl _ _) _)).call (bel_alloc (Below.refl _ _) _))).mono ?_
  rintro e w1 ⟨rfl, hb1⟩
  have bel1 : Below w.heap.size w w1 := bel_call (by exact sBel) hb1
  have X0 : Block w1 w.heap.size 98 [.pointer (some ⟨l, 0, none⟩)] := Block.call (by exact sBlk) hb1
  have X1 : Block w1 (w.heap.size + 1) 42 [.int .i64 0] := Block.call (by exact sBlk) hb1
  obtain ⟨ln, ls, hL⟩ := hLd
  have L1 := hL.call bel1
  have X0p := X0
  obtain ⟨al, af, a0⟩ := X0p.c1
  obtain ⟨kl, kf, k0, k1, k2, k3, k4⟩ := L1.c5
  go_wp2_with fail
  refine (put_frame A n c w.heap.size ys w1 (hY.call bel1 (Nat.le_refl _)) bel1.size hb hn).mono ?_
  rintro e w2 ⟨A2, c2, rfl, O2, hb2⟩
  have bel2 := bel_call bel1 hb2
  have Y0 := X0.call hb2
  have Y1 := X1.call hb2
  clear a0 al af k0 k1 k2 k3 k4 kl kf X0p
  have Y1p := Y1
  obtain ⟨al, af, a0⟩ := Y1p.c1
  have hq1 : 0 < (frameL ys).length := by rw [frameL_len]; omega
  have hq2 : (frameL ys).length ≤ 60012 := by
    have hyl : n = ys.length := by simpa [U8] using hY.len.symm
    rw [frameL_len]
    omega
  go_upto_region 10 with (fail)
  have z2 := bel2.size
  have zy := Y1.lt
  refine at_code (fun W => Below w.heap.size w W ∧ W.heap.size = w2.heap.size + 1 ∧ Block W w.heap.size 98 [.pointer (some ⟨l, 0, none⟩)] ∧ Block W (w.heap.size + 1) 42 [.int .i64 0] ∧ Block W w2.heap.size 4 [.bool false] ∧ W.ownsRow w1.heap.size 5 1 (.slice A2 (frameL ys).length c2) (frameL ys).length (U8 (frameL ys))) ⟨by exact sBel, by simp, (Y0.far (by simp) _).alloc _, (Y1.set 0 _).alloc _, btop (by simp), ?_⟩ ?_
  · refine own_below (w := w2.setCell ⟨w.heap.size + 1, 0, none⟩ (.int .i64 0)) (own_far O2 ?_ _) (by exact sBel)
    have := X1.lt
    show w.heap.size + 1 < w1.heap.size
    omega
  clear X0 X1 Y0 Y1 Y1p O2 hb2 a0 al af
  rintro w3 ⟨bel3, z3, X0, X1, X2, O3⟩
  have L3 := hL.call bel3
  have L3p := L3
  have X0p := X0
  obtain ⟨al, af, a0⟩ := X0p.c1
  obtain ⟨kl, kf, k0, k1, k2, k3, k4⟩ := L3p.c5
  refine AnyBut.region (S := fun w' => w'.cell? ⟨w.heap.size, 0, none⟩ = some (.pointer (some ⟨l, 0, none⟩)) ∧ w'.cell? ⟨l, 0, none⟩ = some (.pointer (some ⟨d, 0, none⟩)) ∧ w'.cell? ⟨l, 1, none⟩ = some (.string ⟨#[108, 111, 103]⟩)) (t := 99) 11 rfl (by kernel_rfl) ?_ ?_
  · exact ⟨a0, k0, k1⟩
  intro hS
  (refine AnyBut.take0 (i := 0) (v := ?_) rfl (by kernel_rfl) (by kernel_rfl) (by kernel_rfl) (by kernel_rfl) (by decide) (fun _ _ _ h => leaves_put rfl (by decide) h) (by rfl) ?_ hS ?_; rotate_left; (intro w' hw'; go_simp; try with_reducible rfl); try simp only [Act.put, List.setIfInBounds_toArray, List.set_cons_zero, List.set_cons_succ]); (refine AnyBut.take0 (i := 1) (v := ?_) rfl (by kernel_rfl) (by kernel_rfl) (by kernel_rfl) (by kernel_rfl) (by decide) (fun _ _ _ h => leaves_put rfl (by decide) h) (by rfl) ?_ hS ?_; rotate_left; (intro w' hw'; go_simp; try with_reducible rfl); try simp only [Act.put, List.setIfInBounds_toArray, List.set_cons_zero, List.set_cons_succ]); (refine AnyBut.take0 (i := 2) (v := ?_) rfl (by kernel_rfl) (by kernel_rfl) (by kernel_rfl) (by kernel_rfl) (by decide) (fun _ _ _ h => leaves_put rfl (by decide) h) (by rfl) ?_ hS ?_; rotate_left; (intro w' hw'; go_simp; try with_reducible rfl); try simp only [Act.put, List.setIfInBounds_toArray, List.set_cons_zero, List.set_cons_succ]); (refine AnyBut.take0 (i := 3) (v := ?_) rfl (by kernel_rfl) (by kernel_rfl) (by kernel_rfl) (by kernel_rfl) (by decide) (fun _ _ _ h => leaves_put rfl (by decide) h) (by rfl) ?_ hS ?_; rotate_left; (intro w' hw'; go_simp; try with_reducible rfl); try simp only [Act.put, List.setIfInBounds_toArray, List.set_cons_zero, List.set_cons_succ]); (refine AnyBut.take0 (i := 4) (v := ?_) rfl (by kernel_rfl) (by kernel_rfl) (by kernel_rfl) (by kernel_rfl) (by decide) (fun _ _ _ h => leaves_put rfl (by decide) h) (by rfl) ?_ hS ?_; rotate_left; (intro w' hw'; go_simp; try with_reducible rfl); try simp only [Act.put, List.setIfInBounds_toArray, List.set_cons_zero, List.set_cons_succ]); (refine AnyBut.take0 (i := 5) (v := ?_) rfl (by kernel_rfl) (by kernel_rfl) (by kernel_rfl) (by kernel_rfl) (by decide) (fun _ _ _ h => leaves_put rfl (by decide) h) (by rfl) ?_ hS ?_; rotate_left; (intro w' hw'; go_simp; try with_reducible rfl); try simp only [Act.put, List.setIfInBounds_toArray, List.set_cons_zero, List.set_cons_succ]); (refine AnyBut.take0 (i := 6) (v := ?_) rfl (by kernel_rfl) (by kernel_rfl) (by kernel_rfl) (by kernel_rfl) (by decide) (fun _ _ _ h => leaves_put rfl (by decide) h) (by rfl) ?_ hS ?_; rotate_left; (intro w' hw'; go_simp; try with_reducible rfl); try simp only [Act.put, List.setIfInBounds_toArray, List.set_cons_zero, List.set_cons_succ]); (refine AnyBut.take0 (i := 7) (v := ?_) rfl (by kernel_rfl) (by kernel_rfl) (by kernel_rfl) (by kernel_rfl) (by decide) (fun _ _ _ h => leaves_put rfl (by decide) h) (by rfl) ?_ hS ?_; rotate_left; (intro w' hw'; go_simp; try with_reducible rfl); try simp only [Act.put, List.setIfInBounds_toArray, List.set_cons_zero, List.set_cons_succ]); (refine AnyBut.take0 (i := 8) (v := ?_) rfl (by kernel_rfl) (by kernel_rfl) (by kernel_rfl) (by kernel_rfl) (by decide) (fun _ _ _ h => leaves_put rfl (by decide) h) (by rfl) ?_ hS ?_; rotate_left; (intro w' hw'; go_simp; try with_reducible rfl); try simp only [Act.put, List.setIfInBounds_toArray, List.set_cons_zero, List.set_cons_succ])
  clear hS
  refine AnyBut.one (i := 9) rfl (by kernel_rfl) rfl ?_; intro K hKK
  have D3 := hD.call (bel_drewN bel3 1)
  have F3 := hF.call (bel_drewN bel3 1)
  go_wp2_with fail
  refine (append_file d md f 0 3 (fs3 f g) _ A2 _ c2 xl (frameL ys) w3.drew D3 named_log (find3_log f g) (log_hk f g) (log_he f g) F3 (by omega) (Shows.of_own O3) (by omega) (by omega)).mono ?_
  rintro e w4 ⟨rfl, D4, M4, kp4⟩
  have hDl := hD.lt
  have hFl := hF.lt
  have hLl := hL.lt
  have hLd : LedAt w l d := ⟨_, _, hL⟩
  have hld := hLd.ne_disk hD
  have hlf := hLd.ne_file hF
  have Y0 := X0.drew.keptX kp4 (by simp; omega)
  have Y1 := X1.drew.keptX kp4 (by simp; omega)
  have Y2 := X2.drew.keptX kp4 (by simp; omega)
  have L4 := L3.drew.keptX kp4 (by simp; exact ⟨hld.1, hld.2, hlf⟩)
  clear a0 al af k0 k1 k2 k3 k4 kl kf X0 X0p X1 X2 L3p O3
  have L4p := L4
  have Y0p := Y0
  obtain ⟨al, af, a0⟩ := Y0p.c1
  obtain ⟨kl, kf, k0, k1, k2, k3, k4⟩ := L4p.c5
  refine hKK _ _ ?_ ?_ <;> clear hKK K
  · exact ⟨a0, k0, k1⟩
  intro hS
  clear hS
  refine AnyBut.one (i := 10) rfl (by kernel_rfl) rfl ?_; intro K hKK
  go_simp
  refine hKK _ _ ⟨a0, k0, k1⟩ ?_
  intro hS
  clear hKK K hS
  refine AnyBut.done (by kernel_rfl) ?_
  go_upto_region 17 with (fail)
  have bel4 : w.heap.size ≤ w4.heap.size := by
    have := bel3.size
    have := kp4.size
    simp at this
    omega
  refine AnyBut.region (S := fun w' => w'.cell? ⟨w.heap.size, 0, none⟩ = some (.pointer (some ⟨l, 0, none⟩)) ∧ w'.cell? ⟨l, 0, none⟩ = some (.pointer (some ⟨d, 0, none⟩)) ∧ w'.cell? ⟨l, 1, none⟩ = some (.string ⟨#[108, 111, 103]⟩)) (t := 99) 10 rfl (by kernel_rfl) ?_ ?_
  · exact ⟨a0, k0, k1⟩
  intro hS
  (refine AnyBut.take0 (i := 0) (v := ?_) rfl (by kernel_rfl) (by kernel_rfl) (by kernel_rfl) (by kernel_rfl) (by decide) (fun _ _ _ h => leaves_put rfl (by decide) h) (by rfl) ?_ hS ?_; rotate_left; (intro w' hw'; go_simp; try with_reducible rfl); try simp only [Act.put, List.setIfInBounds_toArray, List.set_cons_zero, List.set_cons_succ]); (refine AnyBut.take0 (i := 1) (v := ?_) rfl (by kernel_rfl) (by kernel_rfl) (by kernel_rfl) (by kernel_rfl) (by decide) (fun _ _ _ h => leaves_put rfl (by decide) h) (by rfl) ?_ hS ?_; rotate_left; (intro w' hw'; go_simp; try with_reducible rfl); try simp only [Act.put, List.setIfInBounds_toArray, List.set_cons_zero, List.set_cons_succ]); (refine AnyBut.take0 (i := 2) (v := ?_) rfl (by kernel_rfl) (by kernel_rfl) (by kernel_rfl) (by kernel_rfl) (by decide) (fun _ _ _ h => leaves_put rfl (by decide) h) (by rfl) ?_ hS ?_; rotate_left; (intro w' hw'; go_simp; try with_reducible rfl); try simp only [Act.put, List.setIfInBounds_toArray, List.set_cons_zero, List.set_cons_succ]); (refine AnyBut.take0 (i := 3) (v := ?_) rfl (by kernel_rfl) (by kernel_rfl) (by kernel_rfl) (by kernel_rfl) (by decide) (fun _ _ _ h => leaves_put rfl (by decide) h) (by rfl) ?_ hS ?_; rotate_left; (intro w' hw'; go_simp; try with_reducible rfl); try simp only [Act.put, List.setIfInBounds_toArray, List.set_cons_zero, List.set_cons_succ]); (refine AnyBut.take0 (i := 4) (v := ?_) rfl (by kernel_rfl) (by kernel_rfl) (by kernel_rfl) (by kernel_rfl) (by decide) (fun _ _ _ h => leaves_put rfl (by decide) h) (by rfl) ?_ hS ?_; rotate_left; (intro w' hw'; go_simp; try with_reducible rfl); try simp only [Act.put, List.setIfInBounds_toArray, List.set_cons_zero, List.set_cons_succ]); (refine AnyBut.take0 (i := 5) (v := ?_) rfl (by kernel_rfl) (by kernel_rfl) (by kernel_rfl) (by kernel_rfl) (by decide) (fun _ _ _ h => leaves_put rfl (by decide) h) (by rfl) ?_ hS ?_; rotate_left; (intro w' hw'; go_simp; try with_reducible rfl); try simp only [Act.put, List.setIfInBounds_toArray, List.set_cons_zero, List.set_cons_succ]); (refine AnyBut.take0 (i := 6) (v := ?_) rfl (by kernel_rfl) (by kernel_rfl) (by kernel_rfl) (by kernel_rfl) (by decide) (fun _ _ _ h => leaves_put rfl (by decide) h) (by rfl) ?_ hS ?_; rotate_left; (intro w' hw'; go_simp; try with_reducible rfl); try simp only [Act.put, List.setIfInBounds_toArray, List.set_cons_zero, List.set_cons_succ]); (refine AnyBut.take0 (i := 7) (v := ?_) rfl (by kernel_rfl) (by kernel_rfl) (by kernel_rfl) (by kernel_rfl) (by decide) (fun _ _ _ h => leaves_put rfl (by decide) h) (by rfl) ?_ hS ?_; rotate_left; (intro w' hw'; go_simp; try with_reducible rfl); try simp only [Act.put, List.setIfInBounds_toArray, List.set_cons_zero, List.set_cons_succ])
  clear hS
  refine AnyBut.one (i := 8) rfl (by kernel_rfl) rfl ?_; intro K hKK
  have D5 := D4.call (w' := w4.drew) (Below.drew (Below.refl _ _))
  have M5 : FileMore w4.drew f xl (frameL ys) := M4
  go_wp2_with fail
  refine (sync_moreL d md f 0 3 (fs3 f g) _ xl (frameL ys) w4.drew D5 (find3_log f g) M5 (by omega)).mono ?_
  rintro e w6 ⟨rfl, D6, F6, kp6⟩
  have Z0 := Y0.drew.keptX kp6 (by simp; omega)
  have Z1 := Y1.drew.keptX kp6 (by simp; omega)
  have Z2 := Y2.drew.keptX kp6 (by simp; omega)
  have L6 := L4.drew.keptX kp6 (by simp; exact ⟨hld.1, hlf⟩)
  clear a0 al af k0 k1 k2 k3 k4 kl kf Y0 Y0p Y1 Y2 L4p D4 D5 M4 M5
  have L6p := L6
  have Z0p := Z0
  have Z1p := Z1
  obtain ⟨al, af, a0⟩ := Z0p.c1
  obtain ⟨kl, kf, k0, k1, k2, k3, k4⟩ := L6p.c5
  obtain ⟨bl, bf, b0⟩ := Z1p.c1
  refine hKK _ _ ?_ ?_ <;> clear hKK K
  · exact ⟨a0, k0, k1⟩
  intro hS
  clear hS
  refine AnyBut.one (i := 9) rfl (by kernel_rfl) rfl ?_; intro K hKK
  go_simp
  refine hKK _ _ ⟨a0, k0, k1⟩ ?_
  intro hS
  clear hKK K hS
  refine AnyBut.done (by kernel_rfl) ?_
  go_wp2_with fail
  have hLk : Kept [l, w.heap.size + 1] w6 (((w6.setCell ⟨l, 2, none⟩ (.int .i64 (wrap64 (ln + 1)))).setCell ⟨l, 3, none⟩ (.int .i64 (wrap64 (ls + ((frameL ys).length : Int))))).setCell ⟨w.heap.size + 1, 0, none⟩ (.int .i64 0)) := (((Kept.refl _ _).set (by simp) _).set (by simp) _).set (by simp) _
  have L7 := ((L6.set 2 (.int .i64 (wrap64 (ln + 1)))).set 3 (.int .i64 (wrap64 (ls + ((frameL ys).length : Int))))).far (p := ⟨w.heap.size + 1, 0, none⟩) (by show l ≠ w.heap.size + 1; omega) (.int .i64 0)
  have U0 : Block (((w6.setCell ⟨l, 2, none⟩ (.int .i64 (wrap64 (ln + 1)))).setCell ⟨l, 3, none⟩ (.int .i64 (wrap64 (ls + ((frameL ys).length : Int))))).setCell ⟨w.heap.size + 1, 0, none⟩ (.int .i64 0)) w.heap.size 98 [.pointer (some ⟨l, 0, none⟩)] := Z0.keptX hLk (by simp; omega)
  have U1 : Block (((w6.setCell ⟨l, 2, none⟩ (.int .i64 (wrap64 (ln + 1)))).setCell ⟨l, 3, none⟩ (.int .i64 (wrap64 (ls + ((frameL ys).length : Int))))).setCell ⟨w.heap.size + 1, 0, none⟩ (.int .i64 0)) (w.heap.size + 1) 42 [.int .i64 0] := ((Z1.far (p := ⟨l, 2, none⟩) (by show w.heap.size + 1 ≠ l; omega) _).far (p := ⟨l, 3, none⟩) (by show w.heap.size + 1 ≠ l; omega) _).set 0 _
  have hX : ∀ h ∈ [l, w.heap.size + 1], NoU8 w6 h := by
    intro h hh
    simp at hh
    rcases hh with rfl | rfl
    · exact NoU8.of_block L6 (by simp)
    · exact NoU8.of_block Z1 (by simp)
  have D7 := D6.keptX hLk (by simp; omega) (by simp; omega)
  have z34 : w3.heap.size ≤ w4.heap.size := kp4.size
  have F7 := (F6.keptX hLk (by simp; omega) (by simp; omega)).low (lo' := w.heap.size + 2) (by simp; omega)
  have kp7 : Kept [d, md, f, l] w _ := (((((Kept.of_below (X := [d, md, f, l]) bel3).drew).trans kp4 (by simp)).drew).trans kp6 (by simp)).trans hLk (by simp)
  clear hLk Z0 Z1 Z2 Z0p Z1p a0 al af b0 bl bf k0 k1 k2 k3 k4 kl kf L6p D6 F6
  refine leaves_cons (f := 108) (args := #[.pointer (some ⟨w.heap.size + 1, 0, none⟩), .pointer (some ⟨w2.heap.size, 0, none⟩), .pointer (some ⟨w.heap.size, 0, none⟩)]) (by simp) (by simp [go_sem]) ?_
  refine (add_def (w.heap.size + 1) w2.heap.size w.heap.size l d _ _ _ (U1.cell 0) (U0.cell 0) L7).mono ?_
  rintro e u' w8 ⟨rfl, rfl, rfl⟩
  have hLk2 : Kept [l] _ _ := (Kept.refl [l] (((w6.setCell ⟨l, 2, none⟩ (.int .i64 (wrap64 (ln + 1)))).setCell ⟨l, 3, none⟩ (.int .i64 (wrap64 (ls + ((frameL ys).length : Int))))).setCell ⟨w.heap.size + 1, 0, none⟩ (.int .i64 0))).set (p := ⟨l, 4, none⟩) (by simp) (.bool false)
  have U2 := U1.far (p := ⟨l, 4, none⟩) (by show w.heap.size + 1 ≠ l; omega) (.bool false)
  exact (show Leaves Tryz.prog Tryz.f51 _ _ [] .returning _ from ⟨.int .i64 0, res_cell rfl rfl agg_no42 (U2.cell 0), rfl, D7.keptX hLk2 (by simp; omega) (by simp; omega), (F7.keptX hLk2 (by simp; omega) (by simp; omega)).low (by omega), ⟨_, _, L7.set 4 _⟩, kp7.trans hLk2 (by simp)⟩)
end Go.Proofs.YthmhdaefkhcenaaGreatDoor
