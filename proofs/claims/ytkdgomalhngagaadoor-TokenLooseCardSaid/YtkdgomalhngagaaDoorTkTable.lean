/- The walk of token.classes. -/
import Derived.Test.YtkdgomalhngagaaDoorTkBase
import Derived.Lib.OthersKept
import Derived.Laws.Tables
import Derived.Laws.Rows
import Derived.Deep.DeepCutAuto
namespace Go.Proofs.YtkdgomalhngagaaDoor
open Go.RowKit Go.Lib

def tbl (f : Nat → Int) : List Value := (List.range 256).map fun q => Value.int .u8 (f q)
def upd (f : Nat → Int) (c : Nat) (v : Int) : Nat → Int := fun q => if q = c then v else f q
theorem tbl_len (f : Nat → Int) : (tbl f).length = 256 := by unfold tbl; rw [List.length_map, List.length_range]
theorem tbl_set (f : Nat → Int) (c : Nat) (v : Int) : (tbl f).set c (.int .u8 v) = tbl (upd f c v) := by
  apply List.ext_getElem?
  intro i
  unfold tbl upd
  rw [List.getElem?_set, List.getElem?_map, List.getElem?_map, List.length_map, List.length_range]
  by_cases h : i < 256
  · rw [List.getElem?_range h]
    by_cases e : c = i
    · subst e; simp [h]
    · simp [e, Ne.symm e]
  · rw [List.getElem?_eq_none (l := List.range 256) (by simp; omega)]
    by_cases e : c = i
    · subst e; simp [h]
    · simp [e]
theorem tbl_eq {f g : Nat → Int} (h : ∀ q, q < 256 → f q = g q) : tbl f = tbl g := by
  unfold tbl
  refine List.map_congr_left fun q hq => ?_
  rw [h q (List.mem_range.1 hq)]
theorem tbl_cell {f : Nat → Int} {w : World} {g : Nat} {t : TypeId} (h : Block w g t (tbl f)) {q : Nat} (hq : q < 256) : w.cell? ⟨g, q, none⟩ = some (.int .u8 (f q)) := by
  rw [h.cell q]
  unfold tbl
  rw [List.getElem?_map, List.getElem?_range hq]; rfl
theorem tbl_store {f : Nat → Int} {w : World} {g : Nat} {t : TypeId} (h : Block w g t (tbl f)) (c : Nat) (v : Int) : Block (w.setCell ⟨g, c, none⟩ (.int .u8 v)) g t (tbl (upd f c v)) := by
  rw [← tbl_set]; exact h.set c _
def f1 (n : Nat) : Nat → Int := fun q => if 32 ≤ q ∧ q < n then 1 else 0
def f2 : Nat → Int := upd (f1 127) 9 1
def f3 (n : Nat) : Nat → Int := fun q => if (65 ≤ q ∧ q < 65 + n) ∨ (97 ≤ q ∧ q < 97 + n) then 2 else f2 q
def f4 (n : Nat) : Nat → Int := fun q => if 48 ≤ q ∧ q < 48 + n then 3 else f3 26 q
def jAt (n : Nat) : Nat := if n = 0 then 45 else if n = 1 then 47 else if n = 2 then 39 else 46
def f5 : Nat → Nat → Int
  | 0 => f4 10
  | n + 1 => upd (f5 n) (jAt n) 4
def f6 : Nat → Int := upd (upd (f5 4) 44 5) 35 6
theorem f6_is : tbl f6 = clsV := tbl_eq (g := fun q => clsN (q : Int)) (by decide +kernel)
theorem f1_step (n : Nat) (h : 32 ≤ n) : tbl (upd (f1 n) n 1) = tbl (f1 (n + 1)) := tbl_eq fun q _ => by
  unfold upd f1
  by_cases h1 : q = n
  · rw [if_pos h1, if_pos (by omega)]
  · rw [if_neg h1]
    by_cases h2 : 32 ≤ q ∧ q < n
    · rw [if_pos h2, if_pos (by omega)]
    · rw [if_neg h2, if_neg (by omega)]
theorem f3_step (n : Nat) : tbl (upd (upd (f3 n) (65 + n) 2) (97 + n) 2) = tbl (f3 (n + 1)) := tbl_eq fun q _ => by
  unfold upd f3
  by_cases h1 : q = 97 + n
  · rw [if_pos h1, if_pos (by omega)]
  · rw [if_neg h1]
    by_cases h2 : q = 65 + n
    · rw [if_pos h2, if_pos (by omega)]
    · rw [if_neg h2]
      by_cases h3 : (65 ≤ q ∧ q < 65 + n) ∨ (97 ≤ q ∧ q < 97 + n)
      · rw [if_pos h3, if_pos (by omega)]
      · rw [if_neg h3, if_neg (by omega)]
theorem f4_step (n : Nat) : tbl (upd (f4 n) (48 + n) 3) = tbl (f4 (n + 1)) := tbl_eq fun q _ => by
  unfold upd f4
  by_cases h1 : q = 48 + n
  · rw [if_pos h1, if_pos (by omega)]
  · rw [if_neg h1]
    by_cases h2 : 48 ≤ q ∧ q < 48 + n
    · rw [if_pos h2, if_pos (by omega)]
    · rw [if_neg h2, if_neg (by omega)]
theorem f3_0 : tbl f2 = tbl (f3 0) := tbl_eq fun q _ => by unfold f3; rw [if_neg (by omega)]
theorem f4_0 : tbl (f3 26) = tbl (f4 0) := tbl_eq fun q _ => by unfold f4; rw [if_neg (by omega)]
def sAZ : ByteArray := ⟨#[65, 66, 67, 68, 69, 70, 71, 72, 73, 74, 75, 76, 77, 78, 79, 80, 81, 82, 83, 84, 85, 86, 87, 88, 89, 90]⟩
def s09 : ByteArray := ⟨#[48, 49, 50, 51, 52, 53, 54, 55, 56, 57]⟩
def sJ : ByteArray := ⟨#[45, 47, 39, 46]⟩
theorem az_at (pos : Nat) (h : pos < 26) : (sAZ[pos]'h).toNat = 65 + pos := by
  have k : ∀ p, (h : p < 26) → (sAZ[p]'h).toNat = 65 + p := by decide
  exact k pos h
theorem or32 (r q : Nat) (h : 65 ≤ r ∧ r < 91) (hq : r + 32 = q) : bits BinOp.or IntKind.i32 (r : Int) 32 = (q : Int) := by
  subst hq
  have k : ∀ p : Nat, p < 91 → 65 ≤ p → bits BinOp.or IntKind.i32 (p : Int) 32 = ((p + 32 : Nat) : Int) := by decide +kernel
  exact k r h.2 h.1
theorem heap_far {w : World} {p : Addr} {j : Nat} (u : Value) (h : j ≠ p.block) : (w.setCell p u).heap[j]? = w.heap[j]? := Below.heap_setCell w p u j h
theorem s09_at (pos : Nat) (h : pos < 10) : (s09[pos]'h).toNat = 48 + pos := by
  have k : ∀ p, (h : p < 10) → (s09[p]'h).toNat = 48 + p := by decide
  exact k pos h
theorem sJ_at (pos : Nat) (h : pos < 4) : (sJ[pos]'h).toNat = jAt pos := by
  have k : ∀ p, (h : p < 4) → (sJ[p]'h).toNat = jAt p := by decide
  exact k pos h
theorem jAt_lt (n : Nat) : jAt n < 128 := by
  unfold jAt
  split
  · omega
  · split
    · omega
    · split <;> omega
theorem row_table {w W : World} {t : TypeId} {cs : List Value} (h : Block W w.heap.size t cs) : Block (W.setRow w.heap.size clsV.toArray) w.heap.size t clsV := setRow_heap W w.heap.size _ _ _ _ h
theorem row_below {w W : World} (hb : Below w.heap.size w W) : Below w.heap.size w (W.setRow w.heap.size clsV.toArray) :=
  hb.trans ⟨rfl, rfl, rfl, by rw [setRow_size]; exact Nat.le_refl _, fun k hk => setRow_other W _ k _ (by omega)⟩
theorem zero47 : Tryd.zeroCells47 = (tbl fun _ => 0).toArray := by kernel_rfl
theorem iter_at (w : World) (s : ByteArray) : (w.iter s 0).heap[w.heap.size]? = some (.stringIter s 0) := World.iter_heap w s 0
set_option maxRecDepth 100000 in
set_option maxHeartbeats 4000000 in
theorem classes_any (w : World) : Calls Tryd.prog 24 #[] w fun e w' => e = .returned (.agg clsV.toArray) ∧ Below w.heap.size w w' := by
  go_enter Tryd.func24, Tryd.ntmps24
  go_wp2_with fail
  go_loopw [2] (fun c wr => ∃ n : Nat, 32 ≤ n ∧ n ≤ 127 ∧ c = .int .u8 n ∧ Block wr (w.heap.size + 1) 47 (tbl (f1 n)) ∧ Block wr w.heap.size 47 (tbl fun _ => 0) ∧ Below w.heap.size w wr) (fun c _ => 127 - (intOf c).toNat)
  case atStart =>
    refine ⟨32, by omega, by omega, rfl, ?_, ?_, ?_⟩
    · have h := Block.new (w.alloc (.cells (tbl fun _ => 0).toArray 47)) 47 (tbl (f1 32))
      rw [show (w.alloc (.cells (tbl fun _ => 0).toArray 47)).heap.size = w.heap.size + 1 by simp, show tbl (f1 32) = tbl (fun _ => 0) from tbl_eq fun q _ => by unfold f1; rw [if_neg (by omega)]] at h
      rw [zero47, show tbl (f1 32) = tbl (fun _ => 0) from tbl_eq fun q _ => by unfold f1; rw [if_neg (by omega)]]
      exact h
    · rw [zero47]
      exact (Block.new w 47 (tbl fun _ => 0)).alloc _
    · exact bel_alloc (bel_alloc (Below.refl _ _) _) _
  case round =>
    obtain ⟨n, n0, n1, rfl, hB, hR, hbel⟩ := hrel
    by_cases hlt : n ≤ 126
    · have c0 := tbl_cell hB (q := n) (by omega)
      have f0 := hB.free n
      have t : decide ((n : Int) ≤ 126) = true := decide_eq_true (by omega)
      go_wp2_with fail
      go_roundw
      case rel =>
        refine ⟨n + 1, by omega, by omega, by go_num, ?_, hR.far (p := ⟨w.heap.size + 1, n, none⟩) (by simp) _, bel_set hbel (p := ⟨w.heap.size + 1, n, none⟩) (Nat.le_succ _) _⟩
        rw [← f1_step n n0]
        exact tbl_store hB n 1
      case measure => simp [intOf]; omega
    · obtain rfl : n = 127 := by omega
      have c0 := tbl_cell hB (q := 9) (by omega)
      have f0 := hB.free 9
      go_wp2_with fail
      have hk := hB.lt
      have hB2 := tbl_store hB 9 1
      have hR2 := hR.far (p := ⟨w.heap.size + 1, 9, none⟩) (by simp) (.int .u8 1)
      have hbel2 := bel_set hbel (p := ⟨w.heap.size + 1, 9, none⟩) (Nat.le_succ _) (.int .u8 1)
      have hsz2 : (wr.setCell ⟨w.heap.size + 1, 9, none⟩ (.int .u8 1)).heap.size = wr.heap.size := by simp
      generalize wr.heap.size = k at *
      go_loopw [] (fun wr => ∃ pos : Nat, pos ≤ 26 ∧ wr.heap[k]? = some (.stringIter sAZ pos) ∧ Block wr (w.heap.size + 1) 47 (tbl (f3 pos)) ∧ Block wr w.heap.size 47 (tbl fun _ => 0) ∧ Below w.heap.size w wr) (fun wr => 26 - wr.iterPos k)
      case atStart =>
        refine ⟨0, by omega, ?_, ?_, ?_, ?_⟩
        · have h := iter_at (wr.setCell ⟨w.heap.size + 1, 9, none⟩ (.int .u8 1)) sAZ
          rw [hsz2] at h
          exact h
        · rw [← f3_0]; exact hB2.alloc _
        · exact hR2.alloc _
        · exact bel_alloc hbel2 _
      case round =>
        obtain ⟨pos, hp26, hit, hB, hR, hbel⟩ := hrel
        have hks : w.heap.size + 1 < k := hk
        by_cases hp : pos < 26
        · have hnx : ∀ ty, (Instr.next (.pointer (some ⟨k, 0, none⟩)) true ty).run Tryd.prog wr = _ := fun ty => Lib.run_next_ascii_at wr k sAZ pos ty hit hp (by rw [az_at pos hp]; omega)
          rw [az_at pos hp] at hnx
          have hBW : Block (wr.iterAt k sAZ (pos + 1)) (w.heap.size + 1) 47 (tbl (f3 pos)) := (Lib.iterAt_other wr _ _ sAZ _ (by omega)).trans hB
          have hRW : Block (wr.iterAt k sAZ (pos + 1)) w.heap.size 47 (tbl fun _ => 0) := (Lib.iterAt_other wr _ _ sAZ _ (by omega)).trans hR
          have hit2 := Lib.iterAt_heap wr k sAZ pos (pos + 1) hit
          have hbW := Lib.below_iterAt hbel (k := k) (by omega) sAZ (pos + 1)
          generalize wr.iterAt k sAZ (pos + 1) = W at *
          obtain ⟨r, hr⟩ : ∃ r, 65 + pos = r := ⟨_, rfl⟩
          rw [hr] at hnx
          have hr1 : 65 ≤ r ∧ r < 91 := by omega
          obtain ⟨q, hq⟩ : ∃ q, r + 32 = q := ⟨_, rfl⟩
          have hor := or32 r q hr1 hq
          have c0 := tbl_cell hBW (q := r) (by omega)
          have c1 := tbl_cell hBW (q := q) (by omega)
          have g0 := hBW.free r
          have g1 := hBW.free q
          have q2 : q < 256 := by omega
          have hstep : tbl (upd (upd (f3 pos) r 2) q 2) = tbl (f3 (pos + 1)) := by
            have := f3_step pos
            rw [← hr, ← hq, ← hr]
            rw [show 65 + pos + 32 = 97 + pos by omega]
            exact this
          have Hstep := Lib.hid hstep
          have Hit := Lib.hid hit
          have Hrq : Hid (r ≠ q ∧ w.heap.size + 1 < k) := Lib.hid ⟨by omega, hks⟩
          have hrq : ¬ r = q := by omega
          have hqr : ¬ q = r := by omega
          have hb2 := tbl_store hBW r 2
          have c2 := tbl_cell hb2 (q := q) (by omega)
          have g2 := hb2.free q
          clear hit hB hR hbel hr hq hstep
          go_wp2_with fail
          go_roundw
          case rel =>
            refine ⟨pos + 1, by omega, ?_, ?_, ?_, ?_⟩
            · have hne := Hrq.out.2
              rw [heap_far _ (by simp; omega), heap_far _ (by simp; omega)]
              exact hit2
            · rw [← Hstep.out]
              exact tbl_store hb2 q 2
            · exact (hRW.far (p := ⟨w.heap.size + 1, r, none⟩) (by simp) _).far (p := ⟨w.heap.size + 1, q, none⟩) (by simp) _
            · exact bel_set (p := ⟨w.heap.size + 1, q, none⟩) (bel_set (p := ⟨w.heap.size + 1, r, none⟩) hbW (Nat.le_succ _) _) (Nat.le_succ _) _
          case measure =>
            have hne := Hrq.out.2
            simp only [World.iterPos]
            rw [heap_far _ (by simp; omega), heap_far _ (by simp; omega), hit2, Hit.out]
            simp only
            omega
        · obtain rfl : pos = 26 := by omega
          have hnx : ∀ ty, (Instr.next (.pointer (some ⟨k, 0, none⟩)) true ty).run Tryd.prog wr = _ := fun ty => Lib.run_next_end_at wr k sAZ 26 ty hit (by decide)
          have hk2 := hB.lt
          rw [f4_0] at hB
          clear hit
          go_wp2_with fail
          generalize hk22 : wr.heap.size = k2 at *
          go_loopw [] (fun wr => ∃ pos : Nat, pos ≤ 10 ∧ wr.heap[k2]? = some (.stringIter s09 pos) ∧ Block wr (w.heap.size + 1) 47 (tbl (f4 pos)) ∧ Block wr w.heap.size 47 (tbl fun _ => 0) ∧ Below w.heap.size w wr) (fun wr => 10 - wr.iterPos k2)
          case atStart =>
            refine ⟨0, by omega, ?_, ?_, ?_, ?_⟩
            · rw [← hk22]; exact iter_at wr s09
            · exact hB.alloc _
            · exact hR.alloc _
            · exact bel_alloc hbel _
          case round =>
            obtain ⟨pos, hp26, hit, hB, hR, hbel⟩ := hrel
            have hks : w.heap.size + 1 < k2 := hk2
            by_cases hp : pos < 10
            · have hnx : ∀ ty, (Instr.next (.pointer (some ⟨k2, 0, none⟩)) true ty).run Tryd.prog wr = _ := fun ty => Lib.run_next_ascii_at wr k2 s09 pos ty hit hp (by rw [s09_at pos hp]; omega)
              rw [s09_at pos hp] at hnx
              have hBW : Block (wr.iterAt k2 s09 (pos + 1)) (w.heap.size + 1) 47 (tbl (f4 pos)) := (Lib.iterAt_other wr _ _ s09 _ (by omega)).trans hB
              have hRW : Block (wr.iterAt k2 s09 (pos + 1)) w.heap.size 47 (tbl fun _ => 0) := (Lib.iterAt_other wr _ _ s09 _ (by omega)).trans hR
              have hit2 := Lib.iterAt_heap wr k2 s09 pos (pos + 1) hit
              have hbW := Lib.below_iterAt hbel (k := k2) (by omega) s09 (pos + 1)
              generalize wr.iterAt k2 s09 (pos + 1) = W at *
              obtain ⟨r, hr⟩ : ∃ r, 48 + pos = r := ⟨_, rfl⟩
              rw [hr] at hnx
              have hr1 : r < 256 := by omega
              have c0 := tbl_cell hBW (q := r) hr1
              have g0 := hBW.free r
              have hstep : tbl (upd (f4 pos) r 3) = tbl (f4 (pos + 1)) := by rw [← hr]; exact f4_step pos
              have Hstep := Lib.hid hstep
              have Hit := Lib.hid hit
              have Hrq : Hid (w.heap.size + 1 < k2) := Lib.hid hks
              clear hit hB hR hbel hr hstep
              go_wp2_with fail
              go_roundw
              case rel =>
                refine ⟨pos + 1, by omega, ?_, ?_, ?_, ?_⟩
                · have hne := Hrq.out
                  rw [heap_far _ (by simp; omega)]
                  exact hit2
                · rw [← Hstep.out]
                  exact tbl_store hBW r 3
                · exact hRW.far (p := ⟨w.heap.size + 1, r, none⟩) (by simp) _
                · exact bel_set (p := ⟨w.heap.size + 1, r, none⟩) hbW (Nat.le_succ _) _
              case measure =>
                have hne := Hrq.out
                simp only [World.iterPos]
                rw [heap_far _ (by simp; omega), hit2, Hit.out]
                simp only
                omega
            · obtain rfl : pos = 10 := by omega
              have hnx : ∀ ty, (Instr.next (.pointer (some ⟨k2, 0, none⟩)) true ty).run Tryd.prog wr = _ := fun ty => Lib.run_next_end_at wr k2 s09 10 ty hit (by decide)
              have hk2 := hB.lt
              change Block wr (w.heap.size + 1) 47 (tbl (f5 0)) at hB
              clear hit
              go_wp2_with fail
              generalize hk22 : wr.heap.size = k3 at *
              go_loopw [] (fun wr => ∃ pos : Nat, pos ≤ 4 ∧ wr.heap[k3]? = some (.stringIter sJ pos) ∧ Block wr (w.heap.size + 1) 47 (tbl (f5 pos)) ∧ Block wr w.heap.size 47 (tbl fun _ => 0) ∧ Below w.heap.size w wr) (fun wr => 4 - wr.iterPos k3)
              case atStart =>
                refine ⟨0, by omega, ?_, ?_, ?_, ?_⟩
                · rw [← hk22]; exact iter_at wr sJ
                · exact hB.alloc _
                · exact hR.alloc _
                · exact bel_alloc hbel _
              case round =>
                obtain ⟨pos, hp26, hit, hB, hR, hbel⟩ := hrel
                have hks : w.heap.size + 1 < k3 := hk2
                by_cases hp : pos < 4
                · have hnx : ∀ ty, (Instr.next (.pointer (some ⟨k3, 0, none⟩)) true ty).run Tryd.prog wr = _ := fun ty => Lib.run_next_ascii_at wr k3 sJ pos ty hit hp (by rw [sJ_at pos hp]; exact jAt_lt pos)
                  rw [sJ_at pos hp] at hnx
                  have hBW : Block (wr.iterAt k3 sJ (pos + 1)) (w.heap.size + 1) 47 (tbl (f5 pos)) := (Lib.iterAt_other wr _ _ sJ _ (by omega)).trans hB
                  have hRW : Block (wr.iterAt k3 sJ (pos + 1)) w.heap.size 47 (tbl fun _ => 0) := (Lib.iterAt_other wr _ _ sJ _ (by omega)).trans hR
                  have hit2 := Lib.iterAt_heap wr k3 sJ pos (pos + 1) hit
                  have hbW := Lib.below_iterAt hbel (k := k3) (by omega) sJ (pos + 1)
                  generalize wr.iterAt k3 sJ (pos + 1) = W at *
                  obtain ⟨r, hr⟩ : ∃ r, jAt pos = r := ⟨_, rfl⟩
                  rw [hr] at hnx
                  have hr1 : r < 256 := by rw [← hr]; have := jAt_lt pos; omega
                  have c0 := tbl_cell hBW (q := r) hr1
                  have g0 := hBW.free r
                  have hstep : tbl (upd (f5 pos) r 4) = tbl (f5 (pos + 1)) := by rw [← hr]; rfl
                  have Hstep := Lib.hid hstep
                  have Hit := Lib.hid hit
                  have Hrq : Hid (w.heap.size + 1 < k3) := Lib.hid hks
                  clear hit hB hR hbel hr hstep
                  go_wp2_with fail
                  go_roundw
                  case rel =>
                    refine ⟨pos + 1, by omega, ?_, ?_, ?_, ?_⟩
                    · have hne := Hrq.out
                      rw [heap_far _ (by simp; omega)]
                      exact hit2
                    · rw [← Hstep.out]
                      exact tbl_store hBW r 4
                    · exact hRW.far (p := ⟨w.heap.size + 1, r, none⟩) (by simp) _
                    · exact bel_set (p := ⟨w.heap.size + 1, r, none⟩) hbW (Nat.le_succ _) _
                  case measure =>
                    have hne := Hrq.out
                    simp only [World.iterPos]
                    rw [heap_far _ (by simp; omega), hit2, Hit.out]
                    simp only
                    omega
                · obtain rfl : pos = 4 := by omega
                  have hnx : ∀ ty, (Instr.next (.pointer (some ⟨k3, 0, none⟩)) true ty).run Tryd.prog wr = _ := fun ty => Lib.run_next_end_at wr k3 sJ 4 ty hit (by decide)
                  have c44 := tbl_cell hB (q := 44) (by omega)
                  have g44 := hB.free 44
                  have hB2 := tbl_store hB 44 5
                  have c35 := tbl_cell hB2 (q := 35) (by omega)
                  have g35 := hB2.free 35
                  have hB3 := tbl_store hB2 35 6
                  have hR3 := (hR.far (p := ⟨w.heap.size + 1, 44, none⟩) (by simp) (.int .u8 5)).far (p := ⟨w.heap.size + 1, 35, none⟩) (by simp) (.int .u8 6)
                  have hbel3 := bel_set (p := ⟨w.heap.size + 1, 35, none⟩) (bel_set (p := ⟨w.heap.size + 1, 44, none⟩) hbel (Nat.le_succ _) (.int .u8 5)) (Nat.le_succ _) (.int .u8 6)
                  rw [show tbl (upd (upd (f5 4) 44 5) 35 6) = clsV from f6_is] at hB3
                  go_wp2_with fail
                  refine wp_load_row 47 _ rfl (w.heap.size + 1) rfl 47 clsV.toArray (0, 0) _ hB3 Tryd.underlying47 rfl (by kernel_rfl) ?_
                  go_wp2_with (refine wpList_store_row rfl 47 _ _ rfl w.heap.size clsV.toArray rfl rfl 47 (tbl fun _ => 0).toArray (by exact hR3) (by kernel_rfl) (by simp [tbl_len, clsV_len]) (by kernel_rfl) ?_)
                  exact ret_c (T := 47) rfl rfl rfl (row_table hR3) (fun w => by kernel_rfl) (fun w => by rw [clsV_len]; kernel_rfl) ⟨rfl, row_below hbel3⟩
end Go.Proofs.YtkdgomalhngagaaDoor
