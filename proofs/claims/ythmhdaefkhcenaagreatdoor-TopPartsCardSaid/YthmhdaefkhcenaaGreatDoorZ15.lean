/- Lemmas for it; no condition: TFil2 TFil3. -/
import Derived.Test.YthmhdaefkhcenaaGreatDoorZ08
import Derived.Test.YthmhdaefkhcenaaGreatDoorZ14
import Derived.Laws.LoneSync
set_option linter.unusedVariables false
set_option linter.unusedSimpArgs false
namespace Go.Proofs.YthmhdaefkhcenaaGreatDoor
set_option maxRecDepth 100000
set_option maxHeartbeats 8000000
open Go.RowKit Go.Lib

theorem add_int64 (d : Nat) (st : Int) (w : World) (hc : w.cell? ⟨d, 1, none⟩ = some (.int .i64 st)) (hz : w.frozen? ⟨d, 1, none⟩ = false) :
    Calls Tryz.prog 144 #[.pointer (some ⟨d, 1, none⟩), .int .i64 1] w fun e w' => e = .returned (.int .i64 (wrap64 (st + 1))) ∧ w' = w.setCell ⟨d, 1, none⟩ (.int .i64 (wrap64 (st + 1))) := by
  have hadd := run_call_add (P := Tryz.prog) Tryz.func196 (by kernel_rfl) (by kernel_rfl) (by kernel_rfl) .i64 (by kernel_rfl) (y := 1) (s := wrap64 (st + 1)) hc hz (by simp [go_sem]; rw [IntKind.wrap_i64]; simp only [wrap64])
  go_enter Tryz.func144, Tryz.ntmps144
  go_wp2
  go_returns
  exact ⟨by first | rfl | simp, rfl⟩
theorem step_sync (d md : Nat) (st : Int) (cap : Array Value) (w : World) (R : World → Prop) (hD : Block w d 70 [.map (some md), .int .i64 st, .int .i64 (-1), .bool false])
    (hC : Calls Tryz.prog 91 cap (w.setCell ⟨d, 1, none⟩ (.int .i64 (wrap64 (st + 1)))) fun e w' => e = .returned (.tuple #[]) ∧ R w') :
    Calls Tryz.prog 87 #[.pointer (some ⟨d, 0, none⟩), .func (.func 91) #[] cap] w fun e w' => e = .returned (.int .i64 0) ∧ R w' := by
  obtain ⟨kl, kf, k0, k1, k2, k3⟩ := hD.c4
  go_enter Tryz.func87, Tryz.ntmps87
  go_wp2_with fail
  refine (add_int64 d st w k1 (kf 1)).mono ?_
  rintro e w1 ⟨rfl, rfl⟩
  go_wp2_with fail
  refine hC.mono ?_
  rintro e w2 ⟨rfl, hR⟩
  go_wp2_with fail
  go_returns
  exact ⟨by first | rfl | simp, hR⟩
theorem step_append (d md : Nat) (st : Int) (cap : Array Value) (w : World) (R : World → Prop) (hD : Block w d 70 [.map (some md), .int .i64 st, .int .i64 (-1), .bool false])
    (hC : Calls Tryz.prog 88 cap (w.setCell ⟨d, 1, none⟩ (.int .i64 (wrap64 (st + 1)))) fun e w' => e = .returned (.tuple #[]) ∧ R w') :
    Calls Tryz.prog 87 #[.pointer (some ⟨d, 0, none⟩), .func (.func 88) #[] cap] w fun e w' => e = .returned (.int .i64 0) ∧ R w' := by
  obtain ⟨kl, kf, k0, k1, k2, k3⟩ := hD.c4
  go_enter Tryz.func87, Tryz.ntmps87
  go_wp2_with fail
  refine (add_int64 d st w k1 (kf 1)).mono ?_
  rintro e w1 ⟨rfl, rfl⟩
  go_wp2_with fail
  refine hC.mono ?_
  rintro e w2 ⟨rfl, hR⟩
  go_wp2_with fail
  go_returns
  exact ⟨by first | rfl | simp, hR⟩
theorem step_rename (d md : Nat) (st : Int) (cap : Array Value) (w : World) (R : World → Prop) (hD : Block w d 70 [.map (some md), .int .i64 st, .int .i64 (-1), .bool false])
    (hC : Calls Tryz.prog 92 cap (w.setCell ⟨d, 1, none⟩ (.int .i64 (wrap64 (st + 1)))) fun e w' => e = .returned (.tuple #[]) ∧ R w') :
    Calls Tryz.prog 87 #[.pointer (some ⟨d, 0, none⟩), .func (.func 92) #[] cap] w fun e w' => e = .returned (.int .i64 0) ∧ R w' := by
  obtain ⟨kl, kf, k0, k1, k2, k3⟩ := hD.c4
  go_enter Tryz.func87, Tryz.ntmps87
  go_wp2_with fail
  refine (add_int64 d st w k1 (kf 1)).mono ?_
  rintro e w1 ⟨rfl, rfl⟩
  go_wp2_with fail
  refine hC.mono ?_
  rintro e w2 ⟨rfl, hR⟩
  go_wp2_with fail
  go_returns
  exact ⟨by first | rfl | simp, hR⟩
theorem sync_in0 (f bx B : Nat) (sv : Value) (xs : List Int) (w : World) (hb : Block w bx 92 [.pointer (some ⟨f, 0, none⟩)]) (hF : Block w f 131 [sv, .slice none 0 0]) (hS : SafeV w B sv xs) (hB : B ≤ w.heap.size) (hn : xs.length ≤ 1000000) :
    Calls Tryz.prog 91 #[.pointer (some ⟨bx, 0, none⟩)] w fun e w' => e = .returned (.tuple #[]) ∧ ∃ A' c', Block w' f 131 [.slice A' xs.length c', .slice none 0 0] ∧ w'.ownsRow w.heap.size 5 1 (.slice A' xs.length c') xs.length (U8 xs) ∧ Kept [f] w w' := by
  have hbf : bx ≠ f := hb.ne_type hF (by decide)
  have hb0 := hb
  obtain ⟨bl, bf, b0⟩ := hb0.c1
  go_enter Tryz.func91, Tryz.ntmps91
  go_upto_region 0 with (fail)
  refine AnyBut.region (S := fun w' => w'.cell? ⟨bx, 0, none⟩ = some (.pointer (some ⟨f, 0, none⟩))) (t := 99) 4 rfl (by kernel_rfl) b0 ?_
  intro hS0
  have hSs := hS
  clear hS
  have hS := hSs
  clear hSs
  have hSv := hS
  clear hS
  have hS := hS0
  refine AnyBut.tk0 0 hS rfl (h := ?_); refine AnyBut.tk0 1 hS rfl (h := ?_)
  clear hS hS0
  refine AnyBut.one (i := 2) rfl (by kernel_rfl) rfl ?_; intro K hKK
  have hS := hSv
  go_wp2_with fail
  refine (loose0 f sv w.drew hF.drew).mono ?_
  rintro e w1 ⟨rfl, hb1⟩
  have bel1 : Below w.heap.size w w1 := bel_call (by exact sBel) hb1
  refine hKK _ _ ?_ ?_ <;> clear hKK K
  · exact (hb.call bel1).cell 0
  intro hS2
  clear hS2
  refine AnyBut.one (i := 3) rfl (by kernel_rfl) rfl ?_; intro K hKK
  go_wp2_with fail
  refine (settle0 f B 0 sv xs w1 (hF.call bel1) (hS.call bel1 hB) (Nat.le_trans hB bel1.size) hn).mono ?_
  rintro e w2 ⟨A', c', rfl, F2, O2, kp2⟩
  refine hKK _ _ ?_ ?_ <;> clear hKK K
  · exact ((hb.call bel1).keptX kp2 (by simpa using hbf)).cell 0
  intro hS2
  refine AnyBut.done (by kernel_rfl) ?_
  first | go_end0 | (go_wp2; go_end0)
  exact ⟨rfl, A', c', F2, own_base O2 bel1.size, (Kept.of_below bel1).trans kp2 (by simp)⟩
theorem sync_in1 (f bx B lb lc n c : Nat) (A : Option Addr) (sv : Value) (xs ys : List Int) (w : World) (hb : Block w bx 92 [.pointer (some ⟨f, 0, none⟩)]) (hF : Block w f 131 [sv, .slice (some ⟨lb, 0, none⟩) 1 lc]) (hL : Has w lb [.iface 202 (.slice A n c)]) (hS : SafeV w B sv xs) (hY : Shows w B 1 A n (U8 ys)) (hnc : n ≤ c) (h0 : 0 < n) (hB : B ≤ w.heap.size) (hn : xs.length + n ≤ 1000000) :
    Calls Tryz.prog 91 #[.pointer (some ⟨bx, 0, none⟩)] w fun e w' => e = .returned (.tuple #[]) ∧ ∃ A' c', Block w' f 131 [.slice A' (xs.length + n) c', .slice none 0 0] ∧ w'.ownsRow w.heap.size 5 1 (.slice A' (xs.length + n) c') (xs.length + n) (U8 (xs ++ ys)) ∧ Kept [f] w w' := by
  have hbf : bx ≠ f := hb.ne_type hF (by decide)
  have hb0 := hb
  obtain ⟨bl, bf, b0⟩ := hb0.c1
  go_enter Tryz.func91, Tryz.ntmps91
  go_upto_region 0 with (fail)
  refine AnyBut.region (S := fun w' => w'.cell? ⟨bx, 0, none⟩ = some (.pointer (some ⟨f, 0, none⟩))) (t := 99) 4 rfl (by kernel_rfl) b0 ?_
  intro hS0
  have hSs := hS
  clear hS
  have hS := hSs
  clear hSs
  have hSv := hS
  clear hS
  have hS := hS0
  refine AnyBut.tk0 0 hS rfl (h := ?_); refine AnyBut.tk0 1 hS rfl (h := ?_)
  clear hS hS0
  refine AnyBut.one (i := 2) rfl (by kernel_rfl) rfl ?_; intro K hKK
  have hS := hSv
  go_wp2_with fail
  refine (loose1 f lb lc n c A sv w.drew (by omega) hF.drew hL.drew).mono ?_
  rintro e w1 ⟨rfl, hb1⟩
  have bel1 : Below w.heap.size w w1 := bel_call (by exact sBel) hb1
  refine hKK _ _ ?_ ?_ <;> clear hKK K
  · exact (hb.call bel1).cell 0
  intro hS2
  clear hS2
  refine AnyBut.one (i := 3) rfl (by kernel_rfl) rfl ?_; intro K hKK
  go_wp2_with fail
  refine (settle1 f B lb lc n c A sv xs ys w1 (hF.call bel1) (hL.call bel1) (hS.call bel1 hB) (hY.call bel1 hB) hnc h0 (Nat.le_trans hB bel1.size) hn).mono ?_
  rintro e w2 ⟨A', c', rfl, F2, O2, kp2⟩
  refine hKK _ _ ?_ ?_ <;> clear hKK K
  · exact ((hb.call bel1).keptX kp2 (by simpa using hbf)).cell 0
  intro hS2
  refine AnyBut.done (by kernel_rfl) ?_
  first | go_end0 | (go_wp2; go_end0)
  exact ⟨rfl, A', c', F2, own_base O2 bel1.size, (Kept.of_below bel1).trans kp2 (by simp)⟩
def NoU8 (w : World) (g : Nat) : Prop := ∀ o x, w.cell? ⟨g, o, none⟩ ≠ some (.int .u8 x)
theorem NoU8.of_block {w : World} {g : Nat} {t : TypeId} {cs : List Value} (h : Block w g t cs) (hc : ∀ v ∈ cs, ∀ x, v ≠ .int .u8 x) : NoU8 w g := fun o x e => by
  rw [h.cell o] at e
  exact hc _ (List.mem_of_getElem? e) x rfl
theorem NoU8.of_map {w : World} {g c : Nat} {es : List MapEntry} (h : MapAt w g es c) : NoU8 w g := fun o x e => by
  unfold MapAt at h
  simp [World.cell?, h] at e
theorem Shows.kept8 {w w' : World} {B n : Nat} {A : Option Addr} {xs : List Int} {X : List Nat} (h : Shows w B 1 A n (U8 xs)) (hK : Kept X w w') (hB : B ≤ w.heap.size) (hX : ∀ g ∈ X, NoU8 w g) : Shows w' B 1 A n (U8 xs) := by
  refine ⟨h.1, fun hn => ?_⟩
  obtain ⟨b, off, e, hb, hc⟩ := h.2 hn
  have hl := h.len
  have hbX : b ∉ X := fun hm => by
    have h0 := hc 0 (by omega)
    cases xs with
    | nil => simp [U8] at hl; omega
    | cons x xs => exact hX b hm (off + 0) x h0
  exact ⟨b, off, e, hb, fun j hj => (World.cell?_of_block (a := ⟨b, off + j, none⟩) (hK.blk b (by omega) hbX)).trans (hc j hj)⟩
theorem SafeV.kept8 {w w' : World} {B : Nat} {sv : Value} {xs : List Int} {X : List Nat} (h : SafeV w B sv xs) (hK : Kept X w w') (hB : B ≤ w.heap.size) (hX : ∀ g ∈ X, NoU8 w g) : SafeV w' B sv xs := by
  rcases h with h | ⟨a, c, h1, h2, h3⟩
  · exact .inl h
  · exact .inr ⟨a, c, h1, h2, h3.kept8 hK hB hX⟩
theorem sync0 (d md f i cl B : Nat) (st : Int) (es : List MapEntry) (s : ByteArray) (sv : Value) (xs : List Int) (w : World) (hD : Block w d 70 [.map (some md), .int .i64 st, .int .i64 (-1), .bool false]) (hM : MapAt w md es cl) (hf : Instr.findNow .string (.string s) es 0 = some (some (i, .pointer (some ⟨f, 0, none⟩))))
    (hF : Block w f 131 [sv, .slice none 0 0]) (hS : SafeV w B sv xs) (hB : B ≤ w.heap.size) (hn : xs.length ≤ 1000000) :
    Calls Tryz.prog 42 #[.pointer (some ⟨d, 0, none⟩), .string s] w fun e w' => e = .returned (.int .i64 0) ∧ ∃ A' c' st', Block w' d 70 [.map (some md), .int .i64 st', .int .i64 (-1), .bool false] ∧
      Block w' f 131 [.slice A' xs.length c', .slice none 0 0] ∧ w'.ownsRow w.heap.size 5 1 (.slice A' xs.length c') xs.length (U8 xs) ∧ Kept [d, f] w w' := by
  go_enter Tryz.func42, Tryz.ntmps42
  go_wp2_with fail
  refine (open_hit d md f i cl st es s w hD hM hf).mono ?_
  rintro e w1 ⟨rfl, hb1⟩
  have z1 := hb1.size
  have dl := hD.lt
  have hfd : f ≠ d := hF.ne_type hD (by decide)
  go_wp2_with fail
  have bel2 : Below w.heap.size w (w1.alloc (.cells #[.pointer (some ⟨f, 0, none⟩)] 92)) := bel_alloc hb1 _
  have D2 := hD.call bel2
  have kp3 : Kept [d] (w1.alloc (.cells #[.pointer (some ⟨f, 0, none⟩)] 92)) ((w1.alloc (.cells #[.pointer (some ⟨f, 0, none⟩)] 92)).setCell ⟨d, 1, none⟩ (.int .i64 (wrap64 (st + 1)))) := (Kept.refl _ _).set (by simp) _
  have hX : ∀ g ∈ [d], NoU8 (w1.alloc (.cells #[.pointer (some ⟨f, 0, none⟩)] 92)) g := by
    intro g hg
    simp at hg
    subst hg
    exact NoU8.of_block D2 (by simp)
  have b3 : Block ((w1.alloc (.cells #[.pointer (some ⟨f, 0, none⟩)] 92)).setCell ⟨d, 1, none⟩ (.int .i64 (wrap64 (st + 1)))) w1.heap.size 92 [.pointer (some ⟨f, 0, none⟩)] := (btop (cs := [.pointer (some ⟨f, 0, none⟩)]) rfl).far (by show w1.heap.size ≠ d; omega) _
  have F3 := (hF.call bel2).far (p := ⟨d, 1, none⟩) hfd (.int .i64 (wrap64 (st + 1)))
  have S3 := (hS.call bel2 hB).kept8 kp3 (by simp; omega) hX
  refine (step_sync d md st _ _ (fun W => ∃ A' c' st', Block W d 70 [.map (some md), .int .i64 st', .int .i64 (-1), .bool false] ∧
      Block W f 131 [.slice A' xs.length c', .slice none 0 0] ∧ W.ownsRow w.heap.size 5 1 (.slice A' xs.length c') xs.length (U8 xs) ∧ Kept [d, f] w W) D2 ?_).mono ?_
  · refine (sync_in0 f w1.heap.size B sv xs _ b3 F3 S3 (by simp [World.setCell]; omega) hn).mono ?_
    rintro e w4 ⟨rfl, A', c', F4, O4, kp4⟩
    exact ⟨rfl, A', c', _, (D2.set 1 _).keptX kp4 (by simpa using hfd.symm), F4, own_base O4 (by simp [World.setCell]; omega), ((Kept.of_below bel2).trans kp3 (by simp)).trans kp4 (by simp)⟩
  · rintro e w4 ⟨rfl, hR⟩
    go_wp2_with fail
    go_returns
    exact ⟨by first | rfl | simp, hR⟩
theorem sync1 (d md f i cl B lb lc n c : Nat) (A : Option Addr) (st : Int) (es : List MapEntry) (s : ByteArray) (sv : Value) (xs ys : List Int) (w : World) (hD : Block w d 70 [.map (some md), .int .i64 st, .int .i64 (-1), .bool false]) (hM : MapAt w md es cl) (hf : Instr.findNow .string (.string s) es 0 = some (some (i, .pointer (some ⟨f, 0, none⟩))))
    (hF : Block w f 131 [sv, .slice (some ⟨lb, 0, none⟩) 1 lc]) (hL : Has w lb [.iface 202 (.slice A n c)]) (hS : SafeV w B sv xs) (hY : Shows w B 1 A n (U8 ys)) (hnc : n ≤ c) (h0 : 0 < n) (hB : B ≤ w.heap.size) (hld : lb ≠ d) (hn : xs.length + n ≤ 1000000) :
    Calls Tryz.prog 42 #[.pointer (some ⟨d, 0, none⟩), .string s] w fun e w' => e = .returned (.int .i64 0) ∧ ∃ A' c' st', Block w' d 70 [.map (some md), .int .i64 st', .int .i64 (-1), .bool false] ∧
      Block w' f 131 [.slice A' (xs.length + n) c', .slice none 0 0] ∧ w'.ownsRow w.heap.size 5 1 (.slice A' (xs.length + n) c') (xs.length + n) (U8 (xs ++ ys)) ∧ Kept [d, f] w w' := by
  go_enter Tryz.func42, Tryz.ntmps42
  go_wp2_with fail
  refine (open_hit d md f i cl st es s w hD hM hf).mono ?_
  rintro e w1 ⟨rfl, hb1⟩
  have z1 := hb1.size
  have dl := hD.lt
  have hfd : f ≠ d := hF.ne_type hD (by decide)
  go_wp2_with fail
  have bel2 : Below w.heap.size w (w1.alloc (.cells #[.pointer (some ⟨f, 0, none⟩)] 92)) := bel_alloc hb1 _
  have D2 := hD.call bel2
  have kp3 : Kept [d] (w1.alloc (.cells #[.pointer (some ⟨f, 0, none⟩)] 92)) ((w1.alloc (.cells #[.pointer (some ⟨f, 0, none⟩)] 92)).setCell ⟨d, 1, none⟩ (.int .i64 (wrap64 (st + 1)))) := (Kept.refl _ _).set (by simp) _
  have hX : ∀ g ∈ [d], NoU8 (w1.alloc (.cells #[.pointer (some ⟨f, 0, none⟩)] 92)) g := by
    intro g hg
    simp at hg
    subst hg
    exact NoU8.of_block D2 (by simp)
  have b3 : Block ((w1.alloc (.cells #[.pointer (some ⟨f, 0, none⟩)] 92)).setCell ⟨d, 1, none⟩ (.int .i64 (wrap64 (st + 1)))) w1.heap.size 92 [.pointer (some ⟨f, 0, none⟩)] := (btop (cs := [.pointer (some ⟨f, 0, none⟩)]) rfl).far (by show w1.heap.size ≠ d; omega) _
  have F3 := (hF.call bel2).far (p := ⟨d, 1, none⟩) hfd (.int .i64 (wrap64 (st + 1)))
  have S3 := (hS.call bel2 hB).kept8 kp3 (by simp; omega) hX
  refine (step_sync d md st _ _ (fun W => ∃ A' c' st', Block W d 70 [.map (some md), .int .i64 st', .int .i64 (-1), .bool false] ∧
      Block W f 131 [.slice A' (xs.length + n) c', .slice none 0 0] ∧ W.ownsRow w.heap.size 5 1 (.slice A' (xs.length + n) c') (xs.length + n) (U8 (xs ++ ys)) ∧ Kept [d, f] w W) D2 ?_).mono ?_
  · refine (sync_in1 f w1.heap.size B lb lc n c A sv xs ys _ b3 F3 ((hL.call bel2).far hld _) S3 (((hY.call bel2 hB)).kept8 kp3 (by simp; omega) hX) hnc h0 (by simp [World.setCell]; omega) hn).mono ?_
    rintro e w4 ⟨rfl, A', c', F4, O4, kp4⟩
    exact ⟨rfl, A', c', _, (D2.set 1 _).keptX kp4 (by simpa using hfd.symm), F4, own_base O4 (by simp [World.setCell]; omega), ((Kept.of_below bel2).trans kp3 (by simp)).trans kp4 (by simp)⟩
  · rintro e w4 ⟨rfl, hR⟩
    go_wp2_with fail
    go_returns
    exact ⟨by first | rfl | simp, hR⟩
end Go.Proofs.YthmhdaefkhcenaaGreatDoor
namespace Go.Proofs.YthmhdaefkhcenaaGreatDoor
set_option maxRecDepth 100000
set_option maxHeartbeats 8000000
open Go.RowKit Go.Lib Go.MapKept

theorem info_deed : (Tryz.prog.info? 133).map (fun i => (i.zero, i.size, i.bytes)) = some (some .nilIface, 1, 16) := by kernel_rfl
theorem app_in1 (d md f cl x0 x1 x2 x3 : Nat)  (st : Int) (es : List MapEntry) (s : ByteArray) (sv : Value) (w : World) (hbf : Block w x0 92 [.pointer (some ⟨f, 0, none⟩)]) (hbd : Block w x1 24 [.pointer (some ⟨d, 0, none⟩)]) (hbs : Block w x2 9 [.string s]) (hbb : Block w x3 71 [(.slice none 0 0)])
    (hD : Block w d 70 [.map (some md), .int .i64 st, .int .i64 (-1), .bool false]) (hM : MapAt w md es cl) (hf : Instr.findNow .string (.string s) es 0 = some none) (hF : Block w f 131 [sv, .slice none 0 0])  :
    Calls Tryz.prog 88 #[.pointer (some ⟨x0, 0, none⟩), .pointer (some ⟨x1, 0, none⟩), .pointer (some ⟨x2, 0, none⟩), .pointer (some ⟨x3, 0, none⟩)] w fun e w' => e = .returned (.tuple #[]) ∧ MapAt w' md (es ++ [fE (.string s) f cl]) (cl + 1) ∧ Block w' f 131 [sv, .slice none 0 0] ∧ Kept [md, f] w w' := by
  obtain ⟨w1, hup, M1, Gr⟩ := upd_new (P := Tryz.prog) (val := .pointer (some ⟨f, 0, none⟩)) hM.drew Tryz.underlying63 (ck_str s _) (fun _ => run_findKey Tryz.underlying9 hf)
  replace Gr : w.grownBy w1 (some md) := ⟨Gr.os, Gr.tape, Gr.output, Gr.size, Gr.block⟩
  have n0 := hbf.ne_map hM
  have n1 := hbd.ne_map hM
  have n3 := hbb.ne_map hM
  have nf := hF.ne_map hM
  have nd := hD.ne_map hM
  have hbf0 := hbf
  have hbd0 := hbd
  have hbs0 := hbs
  have hD0 := hD
  obtain ⟨al, af, a0⟩ := hbf0.c1
  obtain ⟨bl, bf, b0⟩ := hbd0.c1
  obtain ⟨csl, csf, cs0⟩ := hbs0.c1
  obtain ⟨kl, kf, k0, k1, k2, k3⟩ := hD0.c4
  go_enter Tryz.func88, Tryz.ntmps88
  go_upto_region 0 with (fail)
  refine AnyBut.region (S := fun w' => w'.cell? ⟨x1, 0, none⟩ = some (.pointer (some ⟨d, 0, none⟩)) ∧ w'.cell? ⟨d, 0, none⟩ = some (.map (some md)) ∧ w'.cell? ⟨x2, 0, none⟩ = some (.string s) ∧ w'.cell? ⟨x0, 0, none⟩ = some (.pointer (some ⟨f, 0, none⟩))) (t := 6) 7 rfl (by kernel_rfl) ?_ ?_
  · exact ⟨b0, k0, cs0, a0⟩
  intro hS
  refine AnyBut.tk 0 hS rfl (h := ?_); refine AnyBut.tk 1 hS rfl (h := ?_); refine AnyBut.tk 2 hS rfl (h := ?_); refine AnyBut.tk 3 hS rfl (h := ?_); refine AnyBut.tk 4 hS rfl (h := ?_); refine AnyBut.tk 5 hS rfl (h := ?_)
  clear hS
  refine AnyBut.last rfl (by kernel_rfl) rfl (by kernel_rfl) ?_; intro K hK; go_simp; refine hK _ _ ?_; clear hK K
  clear hup a0 al af b0 bl bf cs0 csl csf k0 k1 k2 k3 kl kf
  have bx1 := hbb.grown Gr (by simpa using n3)
  have fx1 := hbf.grown Gr (by simpa using n0)
  have F1 := hF.grown Gr (by simpa using nf)
  have kp1 : Kept [md, f] w w1 := (Kept.of_grown (X := [md]) Gr (by simp)).mono (by simp)
  obtain ⟨bl, bf, b0⟩ := bx1.c1
  go_wp2_with fail
  go_end0
  exact ⟨rfl, M1, F1, kp1⟩
theorem app_in2 (d md f cl x0 x1 x2 x3 : Nat)  (st : Int) (es : List MapEntry) (s : ByteArray) (A : Option Addr) (n c B : Nat) (sv : Value) (ys : List Int) (w : World) (hbf : Block w x0 92 [.pointer (some ⟨f, 0, none⟩)]) (hbd : Block w x1 24 [.pointer (some ⟨d, 0, none⟩)]) (hbs : Block w x2 9 [.string s]) (hbb : Block w x3 71 [(.slice A n c)])
    (hD : Block w d 70 [.map (some md), .int .i64 st, .int .i64 (-1), .bool false]) (hM : MapAt w md es cl) (hf : Instr.findNow .string (.string s) es 0 = some none) (hF : Block w f 131 [sv, .slice none 0 0]) (hY : Shows w B 1 A n (U8 ys)) (hB : B ≤ w.heap.size) (h0 : 0 < n) (hn : n ≤ 1000000) :
    Calls Tryz.prog 88 #[.pointer (some ⟨x0, 0, none⟩), .pointer (some ⟨x1, 0, none⟩), .pointer (some ⟨x2, 0, none⟩), .pointer (some ⟨x3, 0, none⟩)] w fun e w' => e = .returned (.tuple #[]) ∧ MapAt w' md (es ++ [fE (.string s) f cl]) (cl + 1) ∧ ∃ lb lc A' c', Block w' f 131 [sv, .slice (some ⟨lb, 0, none⟩) 1 lc] ∧ Has w' lb [.iface 202 (.slice A' n c')] ∧ w'.ownsRow w.heap.size 5 1 (.slice A' n c') n (U8 ys) ∧ w.heap.size ≤ lb ∧ Kept [md, f] w w' := by
  obtain ⟨w1, hup, M1, Gr⟩ := upd_new (P := Tryz.prog) (val := .pointer (some ⟨f, 0, none⟩)) hM.drew Tryz.underlying63 (ck_str s _) (fun _ => run_findKey Tryz.underlying9 hf)
  replace Gr : w.grownBy w1 (some md) := ⟨Gr.os, Gr.tape, Gr.output, Gr.size, Gr.block⟩
  have n0 := hbf.ne_map hM
  have n1 := hbd.ne_map hM
  have n3 := hbb.ne_map hM
  have nf := hF.ne_map hM
  have nd := hD.ne_map hM
  have hbf0 := hbf
  have hbd0 := hbd
  have hbs0 := hbs
  have hD0 := hD
  obtain ⟨al, af, a0⟩ := hbf0.c1
  obtain ⟨bl, bf, b0⟩ := hbd0.c1
  obtain ⟨csl, csf, cs0⟩ := hbs0.c1
  obtain ⟨kl, kf, k0, k1, k2, k3⟩ := hD0.c4
  go_enter Tryz.func88, Tryz.ntmps88
  go_upto_region 0 with (fail)
  refine AnyBut.region (S := fun w' => w'.cell? ⟨x1, 0, none⟩ = some (.pointer (some ⟨d, 0, none⟩)) ∧ w'.cell? ⟨d, 0, none⟩ = some (.map (some md)) ∧ w'.cell? ⟨x2, 0, none⟩ = some (.string s) ∧ w'.cell? ⟨x0, 0, none⟩ = some (.pointer (some ⟨f, 0, none⟩))) (t := 6) 7 rfl (by kernel_rfl) ?_ ?_
  · exact ⟨b0, k0, cs0, a0⟩
  intro hS
  refine AnyBut.tk 0 hS rfl (h := ?_); refine AnyBut.tk 1 hS rfl (h := ?_); refine AnyBut.tk 2 hS rfl (h := ?_); refine AnyBut.tk 3 hS rfl (h := ?_); refine AnyBut.tk 4 hS rfl (h := ?_); refine AnyBut.tk 5 hS rfl (h := ?_)
  clear hS
  refine AnyBut.last rfl (by kernel_rfl) rfl (by kernel_rfl) ?_; intro K hK; go_simp; refine hK _ _ ?_; clear hK K
  clear hup a0 al af b0 bl bf cs0 csl csf k0 k1 k2 k3 kl kf
  have bx1 := hbb.grown Gr (by simpa using n3)
  have fx1 := hbf.grown Gr (by simpa using n0)
  have F1 := hF.grown Gr (by simpa using nf)
  have kp1 : Kept [md, f] w w1 := (Kept.of_grown (X := [md]) Gr (by simp)).mono (by simp)
  obtain ⟨bl, bf, b0⟩ := bx1.c1
  have q0 : ¬ (n : Int) ≤ 0 := by omega
  have q1 : (0 : Int) < n := by omega
  have Y1 : Shows w1 B 1 A n (U8 ys) := hY.kept8 (Kept.of_grown (X := [md]) Gr (by simp)) hB (by intro g hg; simp at hg; subst hg; exact NoU8.of_map hM)
  obtain ⟨yb, yo, rfl, hyB, hyc⟩ := Y1.at_ h0
  have z1 := Gr.size
  have fx0 := fx1
  have F0 := F1
  obtain ⟨al, af, a0⟩ := fx0.c1
  obtain ⟨fl, ff, f0, f1⟩ := F0.c2
  go_upto_region 2 with (fail)
  refine AnyBut.region (S := fun w' => w'.cell? ⟨x0, 0, none⟩ = some (.pointer (some ⟨f, 0, none⟩)) ∧ w'.cell? ⟨f, 1, none⟩ = some (.slice none 0 0) ∧ w'.cell? ⟨x3, 0, none⟩ = some (.slice (some ⟨yb, yo, none⟩) n c)) (t := 12) 13 rfl (by kernel_rfl) ?_ ?_
  · exact ⟨a0, f1, b0⟩
  intro hS
  refine AnyBut.tk 0 hS rfl (h := ?_); refine AnyBut.tk 1 hS rfl (h := ?_); refine AnyBut.tk 2 hS rfl (h := ?_); refine AnyBut.tk 3 hS rfl (h := ?_); refine AnyBut.tk 4 hS rfl (h := ?_); refine AnyBut.tk 5 hS rfl (h := ?_)
  clear hS
  refine AnyBut.one (i := 6) rfl (by kernel_rfl) rfl ?_; intro K hKK
  go_wp2_with fail
  refine (clone_b ⟨yb, yo, none⟩ n c B ys w1.drew Y1.drew (by show B ≤ w1.heap.size; omega) h0 hn).mono ?_
  rintro e w2 ⟨A', c', rfl, O2, hb2⟩
  have bel2 : Below w1.heap.size w1 w2 := bel_call (by exact sBel) hb2
  have fx2 := fx1.call bel2
  have F2 := F1.call bel2
  have bx2 := (hbb.grown Gr (by simpa using n3)).call bel2
  clear a0 al af b0 bl bf f0 f1 fl ff fx0 F0
  have F0 := F2
  obtain ⟨al, af, a0⟩ := fx2.c1
  obtain ⟨fl, ff, f0, f1⟩ := F0.c2
  obtain ⟨bl, bf, b0⟩ := bx2.c1
  have z2 := bel2.size
  refine hKK _ _ ?_ ?_ <;> clear hKK K
  · exact ⟨a0, f1, b0⟩
  intro hS
  (refine AnyBut.one (i := 7) rfl (by kernel_rfl) rfl ?_; intro K hK; go_simp; refine hK _ _ hS ?_; clear hK K; intro _)
  clear hS
  refine AnyBut.one (i := 8) rfl (by kernel_rfl) rfl ?_; intro K hK; go_simp; refine hK _ _ ?_ ?_ <;> clear hK K; rotate_left; intro hS; rotate_left
  · refine ⟨?_, ?_, ?_⟩ <;> go_simp
  clear hS
  refine AnyBut.one (i := 9) rfl (by kernel_rfl) rfl ?_; intro K hKK
  refine op_append_nil _ _ 129 rfl 133 _ 1 16 Tryz.underlying129 info_deed rfl w2.heap.size 0 1 1 [.iface 202 (.slice A' n c')] rfl rfl rfl (by intro j v hj; rw [Nat.zero_add]; exact (Block.cell (btop (cs := [.iface 202 (.slice A' n c')]) rfl) j).trans hj) (by omega) (by unfold maxLen; omega) (by omega) ?_
  intro J k hJ hk
  refine hKK _ _ ?_ ?_ <;> clear hKK K
  · refine ⟨?_, ?_, ?_⟩ <;> go_simp
  intro hS
  (refine AnyBut.one (i := 10) rfl (by kernel_rfl) rfl ?_; intro K hK; go_simp; refine hK _ _ hS ?_; clear hK K; intro _); (refine AnyBut.one (i := 11) rfl (by kernel_rfl) rfl ?_; intro K hK; go_simp; refine hK _ _ hS ?_; clear hK K; intro _)
  clear hS
  refine AnyBut.last rfl (by kernel_rfl) rfl (by kernel_rfl) ?_; intro K hK; go_simp; refine hK _ _ ?_; clear hK K
  first | go_end0 | (go_wp2; go_end0)
  have kp2 : Kept [md, f] w w2 := kp1.behind bel2
  refine ⟨rfl, ?_, w2.heap.size + 1, 1 + k, A', c', ?_, ?_, ?_, by omega, ?_⟩
  · repeat' (first | exact M1.call bel2 | refine MapAt.alloc ?_ _ | refine MapAt.drew ?_ | refine MapAt.set ?_ _ _)
  · repeat' (first | exact F2.set 1 _ | refine Block.alloc ?_ _ | refine Block.drew ?_)
  · repeat' (first | (refine has_top ?_; simp; done) | refine Has.drew ?_ | refine Has.far ?_ (by simp; omega) _)
  · refine own_below (w := w2.setCell ⟨f, 1, none⟩ (.slice (some ⟨w2.heap.size + 1, 0, none⟩) 1 (1 + k))) (own_far (own_base O2 (by show w.heap.size ≤ w1.heap.size; omega)) ?_ _) (by exact sBel)
    show f < w.heap.size
    exact hF.lt
  · repeat' (first | exact kp2 | refine Kept.alloc ?_ _ | refine Kept.drew ?_ | refine Kept.set ?_ (by simp) _)
theorem app_in3 (d md f cl x0 x1 x2 x3 : Nat) (i : Nat) (st : Int) (es : List MapEntry) (s : ByteArray) (A : Option Addr) (n c B : Nat) (sv : Value) (ys : List Int) (w : World) (hbf : Block w x0 92 [.pointer (some ⟨f, 0, none⟩)]) (hbd : Block w x1 24 [.pointer (some ⟨d, 0, none⟩)]) (hbs : Block w x2 9 [.string s]) (hbb : Block w x3 71 [(.slice A n c)])
    (hD : Block w d 70 [.map (some md), .int .i64 st, .int .i64 (-1), .bool false]) (hM : MapAt w md es cl) (hf : Instr.findNow .string (.string s) es 0 = some (some (i, .pointer (some ⟨f, 0, none⟩)))) (hk : ∀ w, (Instr.keyThatStays (((es.toArray[i]?).map (·.key)).getD (.string s)) (.string s)).run Tryz.prog w = .ok (.string s) w) (he : es.toArray.modify i (fun e => { e with key := .string s, val := .pointer (some ⟨f, 0, none⟩) }) = es.toArray) (hF : Block w f 131 [sv, .slice none 0 0]) (hY : Shows w B 1 A n (U8 ys)) (hB : B ≤ w.heap.size) (h0 : 0 < n) (hn : n ≤ 1000000) :
    Calls Tryz.prog 88 #[.pointer (some ⟨x0, 0, none⟩), .pointer (some ⟨x1, 0, none⟩), .pointer (some ⟨x2, 0, none⟩), .pointer (some ⟨x3, 0, none⟩)] w fun e w' => e = .returned (.tuple #[]) ∧ MapAt w' md es cl ∧ ∃ lb lc A' c', Block w' f 131 [sv, .slice (some ⟨lb, 0, none⟩) 1 lc] ∧ Has w' lb [.iface 202 (.slice A' n c')] ∧ w'.ownsRow w.heap.size 5 1 (.slice A' n c') n (U8 ys) ∧ w.heap.size ≤ lb ∧ Kept [md, f] w w' := by
  obtain ⟨w1, hup, M1, Gr⟩ := upd_same (P := Tryz.prog) (val := .pointer (some ⟨f, 0, none⟩)) hM.drew Tryz.underlying63 (ck_str s _) (fun _ => run_findKey Tryz.underlying9 hf) hk he
  replace Gr : w.grownBy w1 (some md) := ⟨Gr.os, Gr.tape, Gr.output, Gr.size, Gr.block⟩
  have n0 := hbf.ne_map hM
  have n1 := hbd.ne_map hM
  have n3 := hbb.ne_map hM
  have nf := hF.ne_map hM
  have nd := hD.ne_map hM
  have hbf0 := hbf
  have hbd0 := hbd
  have hbs0 := hbs
  have hD0 := hD
  obtain ⟨al, af, a0⟩ := hbf0.c1
  obtain ⟨bl, bf, b0⟩ := hbd0.c1
  obtain ⟨csl, csf, cs0⟩ := hbs0.c1
  obtain ⟨kl, kf, k0, k1, k2, k3⟩ := hD0.c4
  go_enter Tryz.func88, Tryz.ntmps88
  go_upto_region 0 with (fail)
  refine AnyBut.region (S := fun w' => w'.cell? ⟨x1, 0, none⟩ = some (.pointer (some ⟨d, 0, none⟩)) ∧ w'.cell? ⟨d, 0, none⟩ = some (.map (some md)) ∧ w'.cell? ⟨x2, 0, none⟩ = some (.string s) ∧ w'.cell? ⟨x0, 0, none⟩ = some (.pointer (some ⟨f, 0, none⟩))) (t := 6) 7 rfl (by kernel_rfl) ?_ ?_
  · exact ⟨b0, k0, cs0, a0⟩
  intro hS
  refine AnyBut.tk 0 hS rfl (h := ?_); refine AnyBut.tk 1 hS rfl (h := ?_); refine AnyBut.tk 2 hS rfl (h := ?_); refine AnyBut.tk 3 hS rfl (h := ?_); refine AnyBut.tk 4 hS rfl (h := ?_); refine AnyBut.tk 5 hS rfl (h := ?_)
  clear hS
  refine AnyBut.last rfl (by kernel_rfl) rfl (by kernel_rfl) ?_; intro K hK; go_simp; refine hK _ _ ?_; clear hK K
  clear hup a0 al af b0 bl bf cs0 csl csf k0 k1 k2 k3 kl kf
  have bx1 := hbb.grown Gr (by simpa using n3)
  have fx1 := hbf.grown Gr (by simpa using n0)
  have F1 := hF.grown Gr (by simpa using nf)
  have kp1 : Kept [md, f] w w1 := (Kept.of_grown (X := [md]) Gr (by simp)).mono (by simp)
  obtain ⟨bl, bf, b0⟩ := bx1.c1
  have q0 : ¬ (n : Int) ≤ 0 := by omega
  have q1 : (0 : Int) < n := by omega
  have Y1 : Shows w1 B 1 A n (U8 ys) := hY.kept8 (Kept.of_grown (X := [md]) Gr (by simp)) hB (by intro g hg; simp at hg; subst hg; exact NoU8.of_map hM)
  obtain ⟨yb, yo, rfl, hyB, hyc⟩ := Y1.at_ h0
  have z1 := Gr.size
  have fx0 := fx1
  have F0 := F1
  obtain ⟨al, af, a0⟩ := fx0.c1
  obtain ⟨fl, ff, f0, f1⟩ := F0.c2
  go_upto_region 2 with (fail)
  refine AnyBut.region (S := fun w' => w'.cell? ⟨x0, 0, none⟩ = some (.pointer (some ⟨f, 0, none⟩)) ∧ w'.cell? ⟨f, 1, none⟩ = some (.slice none 0 0) ∧ w'.cell? ⟨x3, 0, none⟩ = some (.slice (some ⟨yb, yo, none⟩) n c)) (t := 12) 13 rfl (by kernel_rfl) ?_ ?_
  · exact ⟨a0, f1, b0⟩
  intro hS
  refine AnyBut.tk 0 hS rfl (h := ?_); refine AnyBut.tk 1 hS rfl (h := ?_); refine AnyBut.tk 2 hS rfl (h := ?_); refine AnyBut.tk 3 hS rfl (h := ?_); refine AnyBut.tk 4 hS rfl (h := ?_); refine AnyBut.tk 5 hS rfl (h := ?_)
  clear hS
  refine AnyBut.one (i := 6) rfl (by kernel_rfl) rfl ?_; intro K hKK
  go_wp2_with fail
  refine (clone_b ⟨yb, yo, none⟩ n c B ys w1.drew Y1.drew (by show B ≤ w1.heap.size; omega) h0 hn).mono ?_
  rintro e w2 ⟨A', c', rfl, O2, hb2⟩
  have bel2 : Below w1.heap.size w1 w2 := bel_call (by exact sBel) hb2
  have fx2 := fx1.call bel2
  have F2 := F1.call bel2
  have bx2 := (hbb.grown Gr (by simpa using n3)).call bel2
  clear a0 al af b0 bl bf f0 f1 fl ff fx0 F0
  have F0 := F2
  obtain ⟨al, af, a0⟩ := fx2.c1
  obtain ⟨fl, ff, f0, f1⟩ := F0.c2
  obtain ⟨bl, bf, b0⟩ := bx2.c1
  have z2 := bel2.size
  refine hKK _ _ ?_ ?_ <;> clear hKK K
  · exact ⟨a0, f1, b0⟩
  intro hS
  (refine AnyBut.one (i := 7) rfl (by kernel_rfl) rfl ?_; intro K hK; go_simp; refine hK _ _ hS ?_; clear hK K; intro _)
  clear hS
  refine AnyBut.one (i := 8) rfl (by kernel_rfl) rfl ?_; intro K hK; go_simp; refine hK _ _ ?_ ?_ <;> clear hK K; rotate_left; intro hS; rotate_left
  · refine ⟨?_, ?_, ?_⟩ <;> go_simp
  clear hS
  refine AnyBut.one (i := 9) rfl (by kernel_rfl) rfl ?_; intro K hKK
  refine op_append_nil _ _ 129 rfl 133 _ 1 16 Tryz.underlying129 info_deed rfl w2.heap.size 0 1 1 [.iface 202 (.slice A' n c')] rfl rfl rfl (by intro j v hj; rw [Nat.zero_add]; exact (Block.cell (btop (cs := [.iface 202 (.slice A' n c')]) rfl) j).trans hj) (by omega) (by unfold maxLen; omega) (by omega) ?_
  intro J k hJ hk
  refine hKK _ _ ?_ ?_ <;> clear hKK K
  · refine ⟨?_, ?_, ?_⟩ <;> go_simp
  intro hS
  (refine AnyBut.one (i := 10) rfl (by kernel_rfl) rfl ?_; intro K hK; go_simp; refine hK _ _ hS ?_; clear hK K; intro _); (refine AnyBut.one (i := 11) rfl (by kernel_rfl) rfl ?_; intro K hK; go_simp; refine hK _ _ hS ?_; clear hK K; intro _)
  clear hS
  refine AnyBut.last rfl (by kernel_rfl) rfl (by kernel_rfl) ?_; intro K hK; go_simp; refine hK _ _ ?_; clear hK K
  first | go_end0 | (go_wp2; go_end0)
  have kp2 : Kept [md, f] w w2 := kp1.behind bel2
  refine ⟨rfl, ?_, w2.heap.size + 1, 1 + k, A', c', ?_, ?_, ?_, by omega, ?_⟩
  · repeat' (first | exact M1.call bel2 | refine MapAt.alloc ?_ _ | refine MapAt.drew ?_ | refine MapAt.set ?_ _ _)
  · repeat' (first | exact F2.set 1 _ | refine Block.alloc ?_ _ | refine Block.drew ?_)
  · repeat' (first | (refine has_top ?_; simp; done) | refine Has.drew ?_ | refine Has.far ?_ (by simp; omega) _)
  · refine own_below (w := w2.setCell ⟨f, 1, none⟩ (.slice (some ⟨w2.heap.size + 1, 0, none⟩) 1 (1 + k))) (own_far (own_base O2 (by show w.heap.size ≤ w1.heap.size; omega)) ?_ _) (by exact sBel)
    show f < w.heap.size
    exact hF.lt
  · repeat' (first | exact kp2 | refine Kept.alloc ?_ _ | refine Kept.drew ?_ | refine Kept.set ?_ (by simp) _)
end Go.Proofs.YthmhdaefkhcenaaGreatDoor
