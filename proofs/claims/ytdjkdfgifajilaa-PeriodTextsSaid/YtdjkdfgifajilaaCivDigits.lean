/- The walk of 'civil.digits'. -/
import Derived.Test.YtdjkdfgifajilaaCivLaw
import Derived.Test.YtdjkdfgifajilaaCivPlain2
namespace Go.Proofs.Ytdjkdfgifajilaa
open Go.RowKit

theorem conv_shows {w : World} {B n : Nat} {A : Option Addr} {xs : List Int} (c : Nat) (h : Shows w B 1 A n (U8 xs)) :
    (convert 53 9 (.slice A n c)).run Try.prog w = .ok (.string (strOfNums xs)) w := by
  have hl : xs.length = n := by have := h.len; simpa [U8] using this
  rcases Nat.eq_zero_or_pos n with h0 | h0
  · subst h0
    have hx : xs = [] := List.eq_nil_of_length_eq_zero hl
    subst hx
    rcases A with _ | ⟨b, off, spot⟩
    · exact run_convert_bytes_nil w _ _ Try.underlying53 Try.underlying5 _ _ 9 Try.underlying9
    · rw [run_convert_bytes_string w _ _ _ _ _ _ Try.underlying53 Try.underlying5 Try.underlying9, run_bytesToString w _ 0 c [] (by simp [loadCells, loadCellsFrom, Sem.run_pure])]
      rfl
  · obtain ⟨b, off, rfl, _, hc⟩ := h.at_ h0
    refine run_convert_bytes_arg w _ _ Try.underlying53 Try.underlying5 b off n c xs hl (fun i hi => ?_) 9 Try.underlying9
    rw [hc i (by simpa [U8, hl] using hi)]
    simp [U8, List.getD, List.getElem?_eq_getElem (show i < xs.length by omega)]
theorem str_inj {xs ys : List Int} (hx : ∀ x ∈ xs, 0 ≤ x ∧ x ≤ 255) (hy : ∀ x ∈ ys, 0 ≤ x ∧ x ≤ 255) (e : (strOfNums xs).data.toList = (strOfNums ys).data.toList) : xs = ys := by
  rw [strOfNums_data, strOfNums_data] at e
  induction xs generalizing ys with
  | nil => simpa using e.symm
  | cons x xs ih =>
    cases ys with
    | nil => simp at e
    | cons y ys =>
      simp only [List.map_cons, List.cons.injEq] at e
      have h1 := hx x (by simp)
      have h2 := hy y (by simp)
      have e1 : (UInt8.ofNat x.toNat).toNat = (UInt8.ofNat y.toNat).toNat := by rw [e.1]
      simp only [UInt8.toNat_ofNat'] at e1
      rw [ih (fun z hz => hx z (by simp [hz])) (fun z hz => hy z (by simp [hz])) e.2, show x = y by omega]
def sameB (xs ys : List Int) : Bool := decide (xs = ys)

theorem digI_U8 : (Try.prog.info? 5).map (fun i => (i.zero, i.size, i.bytes)) = some (some (.int .u8 0), 1, 1) := by kernel_rfl
theorem madeB (k : Nat) : (madeCells (Value.int .u8 0).cells (k * 1)).toList = List.replicate k (.int .u8 0) := by
  simp [Value.cells, toList_madeCells_one]
theorem set_dig (j : Nat) (x : Int) (acc : List Int) : (List.replicate (j + 1) (Value.int .u8 0) ++ U8 acc).set j (.int .u8 x) = List.replicate j (Value.int .u8 0) ++ U8 (x :: acc) := by
  rw [List.replicate_succ', List.append_assoc, List.set_append_right _ _ (by simp)]
  simp [U8]
set_option maxRecDepth 100000 in
set_option maxHeartbeats 2000000 in
theorem digits_any (n k : Nat) (w : World) (hn : n ≤ 1000000) (hk : k ≤ 10) :
    Calls Try.prog 50 #[.int .i64 n, .int .i64 k] w fun e w' => e = .returned (.string (strOfNums (Civ.digL k n))) ∧ Below w.heap.size w w' := by
  obtain ⟨i0, hi, hz0, hz1, hz2⟩ := info_parts digI_U8
  go_enter Try.func50, Try.ntmps50
  go_wp2_with (at_make; refine wpList_make_full _ rfl _ _ 53 rfl w.heap.size 5 i0 _ 1 Try.underlying53 hi hz0 hz1 .i64 .i64 _ _ k rfl rfl (by omega) (by omega) (by rw [hz2]; omega) (by unfold maxLen; omega) (Nat.le_refl _) ?_; intro w1 hown hg1; rw [madeB] at hown; have hblk := own_block hown; have hb1 : Below w.heap.size w w1 := (Below.refl _ _).grown hg1 (Nat.le_refl _) (by simp); clear hown hg1)
  go_loopw [0, 6] (fun r i wr => ∃ (j m : Nat) (acc : List Int), j ≤ k ∧ m ≤ 1000000 ∧ r = .int .i64 m ∧ i = .int .i64 ((j : Int) - 1) ∧ Civ.digL j m ++ acc = Civ.digL k n ∧ Block wr w.heap.size 5 (List.replicate j (.int .u8 0) ++ U8 acc) ∧ acc.length + j = k ∧ Below w.heap.size w wr) (fun _ i _ => (intOf i + 1).toNat)
  case atStart => exact ⟨k, n, [], Nat.le_refl _, hn, rfl, rfl, by simp, by simpa [U8] using hblk, by simp, hb1⟩
  case round =>
    obtain ⟨j, m, acc, hj, hm, rfl, rfl, he, hb, hl, hbel⟩ := hrel
    clear hblk hb1
    rcases j with _ | j
    · rw [show List.replicate 0 (Value.int .u8 0) ++ U8 acc = U8 acc from rfl] at hb
      have hc := conv_shows k (hb.shows (size := 1) (n := k) (by simp [U8]; omega))
      have he2 : acc = Civ.digL k n := by simpa [Civ.digL] using he
      subst he2
      clear he
      go_wp2_with fail
      go_ret
      exact ⟨rfl, hbel⟩
    · have hset := hb.set j (.int .u8 ((48 + m % 10 : Nat) : Int))
      rw [set_dig] at hset
      have hfree := hb.free j
      have hlt := hb.lt
      have hcell := hb.cell j
      rw [List.getElem?_append_left (by simp), List.getElem?_replicate, if_pos (by omega)] at hcell
      have hB := bel_set hbel (p := ⟨w.heap.size, j, none⟩) (Nat.le_refl _) (.int .u8 ((48 + m % 10 : Nat) : Int))
      clear hb
      go_wp2_with fail
      go_roundw
      case rel =>
        refine ⟨j, m / 10, ((48 + m % 10 : Nat) : Int) :: acc, by omega, by omega, by go_num, by go_num, by simpa [Civ.digL] using he, hset, by simp; omega, hB⟩
      case measure => simp [intOf]
end Go.Proofs.Ytdjkdfgifajilaa
