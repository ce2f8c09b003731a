/- The walk of the statement 'OctetReader'. -/
import Derived.Test.YtnhiipiciondoaaRdRef2
import Derived.Test.YtnhiipiciondoaaTri
import Derived.Test.YtnhiipiciondoaaKitBytes
import Derived.Test.YtnhiipiciondoaaOctAwake
import Derived.Test.YtnhiipiciondoaaOctGetsWalk
import Derived.Deep.CutBlock
namespace Go.Proofs.Ytnhiipiciondoaa
open Go.RowKit Go.Lib

/-- The two readers between two calls. -/
def Inv (w : World) (R R2 gI : Nat) (A A0 : Option Addr) (n c c0 : Nat) (xs : List Int) (at_ fe fa at2 fe2 fa2 : Int) (wr : World) : Prop :=
  RD wr R A n c at_ fe fa true ∧ RF wr R2 A0 n c0 at2 fe2 fa2 ∧ Shows wr R 1 A n (U8 xs) ∧ Block wr gI 5 (U8 (lentB xs)) ∧ Below w.heap.size w wr ∧ w.heap.size ≤ gI ∧ gI < R ∧ R < R2
section
variable {w wr w' : World} {R R2 gI n c c0 : Nat} {A A0 : Option Addr} {xs : List Int} {a e p a2 e2 p2 a' e' p' : Int}
theorem Inv.prog (h : Inv w R R2 gI A A0 n c c0 xs a e p a2 e2 p2 wr) (hg : wr.grownBy w' (some R)) (hR : RD w' R A n c a' e' p' true) : Inv w R R2 gI A A0 n c c0 xs a' e' p' a2 e2 p2 w' := by
  obtain ⟨h1, h2, h3, h4, h5, h6, h7, h8⟩ := h
  have := Block.lt h1
  exact ⟨hR, Block.kept h2 hg (by omega), h3.kept hg (Nat.le_refl _) (by omega), h4.kept hg (by omega), bel_grown h5 hg (fun k hk => by injection hk with hk; omega), h6, h7, h8⟩
theorem Inv.ref (h : Inv w R R2 gI A A0 n c c0 xs a e p a2 e2 p2 wr) (hg : wr.grownBy w' (some R2)) (hR : RF w' R2 A0 n c0 a' e' p') : Inv w R R2 gI A A0 n c c0 xs a e p a' e' p' w' := by
  obtain ⟨h1, h2, h3, h4, h5, h6, h7, h8⟩ := h
  have := Block.lt h1
  exact ⟨Block.kept h1 hg (by omega), hR, h3.kept hg (by omega) (by omega), h4.kept hg (by omega), bel_grown h5 hg (fun k hk => by injection hk with hk; omega), h6, h7, h8⟩
theorem Inv.call (h : Inv w R R2 gI A A0 n c c0 xs a e p a2 e2 p2 wr) (hb : Below wr.heap.size wr w') : Inv w R R2 gI A A0 n c c0 xs a e p a2 e2 p2 w' := by
  obtain ⟨h1, h2, h3, h4, h5, h6, h7, h8⟩ := h
  have := Block.lt h1
  exact ⟨Block.call h1 hb, Block.call h2 hb, h3.call hb (by omega), h4.call hb, bel_call h5 hb, h6, h7, h8⟩
theorem Inv.drewN (h : Inv w R R2 gI A A0 n c c0 xs a e p a2 e2 p2 wr) (k : Nat) : Inv w R R2 gI A A0 n c c0 xs a e p a2 e2 p2 (wr.drewN k) := by
  obtain ⟨h1, h2, h3, h4, h5, h6, h7, h8⟩ := h
  exact ⟨h1, h2, h3, h4, bel_drewN h5 k, h6, h7, h8⟩
theorem Inv.bel (h : Inv w R R2 gI A A0 n c c0 xs a e p a2 e2 p2 wr) : Below w.heap.size w wr := h.2.2.2.2.1
end
theorem rdN_at {xs : List Int} (hx : ∀ x ∈ xs, 0 ≤ x ∧ x ≤ 255) {a e p low high ab v a' e' p' : Int} (h0 : 0 ≤ a) (h1 : a ≤ xs.length) (h : rdN (Oct.getB xs a) a e p low high ab = (v, a', e', p')) : 0 ≤ a' ∧ a' ≤ xs.length := by
  have hf := (Oct.getB_facts xs a hx).2
  unfold rdN at h
  split at h
  · simp only [Prod.mk.injEq] at h; omega
  · split at h
    · rename_i hn
      simp only [Prod.mk.injEq] at h
      have hz : (Oct.getB xs a).2.2.1 = 0 := by
        rcases Decidable.em ((Oct.getB xs a).2.2.1 = 0) with hz | hz
        · exact hz
        · unfold nfault at hn; rw [if_pos hz] at hn; exact absurd hn hz
      have := hf hz
      omega
    · simp only [Prod.mk.injEq] at h; omega
theorem rdT_at {xs : List Int} (hx : ∀ x ∈ xs, 0 ≤ x ∧ x ≤ 255) {a e p most a' e' p' : Int} {v : List Int} (h0 : 0 ≤ a) (h1 : a ≤ xs.length) (h : rdT (getT xs a most) a e p = (v, a', e', p')) : 0 ≤ a' ∧ a' ≤ xs.length := by
  have hf := (Oct.getB_facts xs a hx).2
  have hg : (getT xs a most).2.2.1 = 0 → 0 ≤ (getT xs a most).2.1 ∧ (getT xs a most).2.1 ≤ xs.length := by
    intro hz
    unfold getT at hz ⊢
    split at hz
    · cases hz
    · rename_i hm
      rw [if_neg hm]
      simp only at hz ⊢
      split at hz
      · rename_i hb; exact absurd hz hb
      · rename_i hb
        rw [if_neg hb]
        have hb' : (Oct.getB xs a).2.2.1 = 0 := by simpa using hb
        have := hf hb'
        split at hz
        · cases hz
        · rename_i hc
          rw [if_neg hc]
          split at hz
          · cases hz
          · rename_i hd
            rw [if_neg hd]
            unfold tail_ at hz ⊢
            split at hz
            · cases hz
            · rename_i ht
              rw [if_neg ht]
              simp only
              omega
  unfold rdT at h
  split at h
  · simp only [Prod.mk.injEq] at h; omega
  · split at h
    · rename_i hn
      simp only [Prod.mk.injEq] at h
      have := hg hn
      omega
    · simp only [Prod.mk.injEq] at h; omega
set_option maxRecDepth 100000 in
set_option maxHeartbeats 16000000 in
theorem oreader_walk (A0 : Option Addr) (n c0 : Nat) (xs : List Int) (Al : Option Addr) (m cl : Nat) (l : List (Int × Int × Int)) (w : World) (hb : Shows w w.heap.size 1 A0 n (U8 xs)) (hx : ∀ x ∈ xs, 0 ≤ x ∧ x ≤ 255) (hkc : n ≤ c0) (_ : c0 ≤ maxLen)
    (hl : Shows w w.heap.size 3 Al m (TC l)) (_ : ∀ x ∈ l, In3 x) (_ : m ≤ cl) (_ : cl ≤ maxLen) :
    Calls Try.prog 10 #[.slice A0 n c0, .slice Al m cl] w fun e w' => e = .returned (.bool true) ∧ Below w.heap.size w w' := by
  have hB : w.heap.size ≤ w.heap.size := Nat.le_refl _
  by_cases h2 : 2000 < n
  · go_enter Try.func10, Try.ntmps10
    go_wp2_with fail
    go_ret
    exact ⟨rfl, Below.refl _ _⟩
  by_cases h3 : 200 < m
  · go_enter Try.func10, Try.ntmps10
    go_wp2_with fail
    go_ret
    exact ⟨rfl, Below.refl _ _⟩
  have hlen : xs.length = n := by have := hb.len; simpa [U8] using this
  have Hlen := Lib.hid hlen
  have Hl := Lib.hid hl.num3
  have hlb := lentBytes_any A0 n c0 xs w.heap.size w hb hB (by omega)
  have hm70 : n ≤ 70000 := by omega
  have hmx : n ≤ maxLen := by unfold maxLen; omega
  clear hlen
  go_enter Try.func10, Try.ntmps10
  go_wp2_with fail
  refine hlb.mono ?_
  rintro e w1 ⟨gI, rfl, hgI, hbI, hb1⟩
  have hsI : Shows w1 (gI + 1) 1 (some ⟨gI, 0, none⟩) n (U8 xs) := lent_shows Hlen.out hbI
  have hIl := hbI.lt
  go_wp2_with fail
  refine (new_any _ n (n + 3) xs (gI + 1) w1 hsI (by omega) hm70).mono ?_
  rintro e w2 ⟨R, A, c, rfl, hR, hsR, hnc, hRl, hb2⟩
  have bel2 := bel_call hb1 hb2
  have hInv : Inv w R w2.heap.size gI A A0 n c c0 xs 0 0 0 0 0 0 (w2.alloc (.cells #[.slice A0 n c0, .int .i64 0, .int .i64 0, .int .i64 0] 60)) := by
    have hRl2 := Block.lt hR
    exact ⟨Block.alloc hR _, Block.new w2 _ [.slice A0 n c0, .int .i64 0, .int .i64 0, .int .i64 0], hsR.alloc (by omega) _, (hbI.call hb2).alloc _, bel_alloc bel2 _, hgI, by omega, hRl2⟩
  clear hlb hbI hsI hR hsR
  go_wp2_with fail
  go_loopw [8] (fun i wr => ∃ (j : Nat) (a e p : Int), j ≤ m ∧ i = .int .i64 j ∧ 0 ≤ a ∧ a ≤ n ∧ Inv w R w2.heap.size gI A A0 n c c0 xs a e p a e p wr) (fun i _ => m - (intOf i).toNat)
  case atStart => exact ⟨0, 0, 0, 0, by omega, rfl, Int.le_refl _, by omega, hInv⟩
  case round =>
    obtain ⟨j, a, ef, pf, hj, rfl, a0, a1, hI⟩ := hrel
    have a2 : a ≤ 9223372036854775807 := by omega
    have hbr : Shows wr w.heap.size 1 A0 n (U8 xs) := hb.call hI.bel hB
    have hbz := hI.bel.size
    by_cases hlt : j < m
    · obtain ⟨x, hxe⟩ : ∃ x, l[j]? = some x := ⟨l[j]'(by rw [Hl.out]; exact hlt), List.getElem?_eq_getElem _⟩
      obtain ⟨b, off, rfl, hbb, c1, c2, c3⟩ := hl.tri hxe
      obtain ⟨kd, lo, hi⟩ := x
      simp only at c1 c2 c3
      have d1 := (hI.bel.cell (p := ⟨b, off + j * 3, none⟩) hbb).trans c1
      have d2 := (hI.bel.cell (p := ⟨b, off + j * 3 + 1, none⟩) hbb).trans c2
      have d3 := (hI.bel.cell (p := ⟨b, off + j * 3 + 2, none⟩) hbb).trans c3
      have q3 : (0 : Int) ≤ (j : Int) := by omega
      have q4 : (j : Int) < (m : Int) := by omega
      clear hxe
      go_upto_block 2 with (fail)
      go_cut [9] (fun s9 wx => s9 = .bool true ∧ ∃ (a' e' p' : Int), 0 ≤ a' ∧ a' ≤ n ∧ Inv w R w2.heap.size gI A A0 n c c0 xs a' e' p' a' e' p' wx)
      case first =>
        by_cases k0 : kd = 0
        · subst k0
          obtain ⟨v, a', e', p', hst⟩ : ∃ v a' e' p', rdN (Oct.getB xs a) a ef pf lo hi 5 = (v, a', e', p') := ⟨_, _, _, _, rfl⟩
          have hat := rdN_at hx a0 (by rw [Hlen.out]; exact a1) hst
          rw [Hlen.out] at hat
          have h1 := int_made R A n c xs a ef pf lo hi R wr.drew hI.1 hI.2.2.1.drew (by simpa using Nat.le_of_lt (Block.lt hI.1)) hmx hnc hx a0 a2 hst
          have h2 := fun (w3 : World) (i3 : Inv w R w2.heap.size gI A A0 n c c0 xs a' e' p' a ef pf w3) => rInt_any w2.heap.size A0 n c0 xs a ef pf lo hi w.heap.size w3 i3.2.1 (hb.call i3.bel hB) i3.bel.size hmx hkc hx a0 a2 hst
          have tv : (v == v) = true := by simp
          clear hst
          go_wp2_with fail
          go_region_held3 (fun w' => w'.cell? ⟨b, off + j * 3 + 1, none⟩ = some (.int .i64 lo) ∧ w'.cell? ⟨b, off + j * 3 + 2, none⟩ = some (.int .i64 hi)) (go_keep) (first
            | (go_at_call 34; refine h1.mono ?_; rintro e w3 ⟨rfl, hg3, hR3⟩; have i3 := Inv.prog (hI.drewN 1) hg3 hR3; have f2 := (i3.bel.cell (p := ⟨b, off + j * 3 + 1, none⟩) hbb).trans c2; have f3 := (i3.bel.cell (p := ⟨b, off + j * 3 + 2, none⟩) hbb).trans c3)
            | (go_at_call 40; refine (h2 _ i3).mono ?_; rintro e w4 ⟨rfl, hg4, hR4⟩; have i4 := Inv.ref i3 hg4 hR4; have g2 := (i4.bel.cell (p := ⟨b, off + j * 3 + 1, none⟩) hbb).trans c2; have g3 := (i4.bel.cell (p := ⟨b, off + j * 3 + 2, none⟩) hbb).trans c3))
          go_wp2_with fail
          go_meet
          exact ⟨rfl, a', e', p', hat.1, hat.2, i4⟩
        have t0 : (kd == 0) = false := by simpa using k0
        by_cases k1 : kd = 1
        · subst k1
          obtain ⟨v, a', e', p', hst⟩ : ∃ v a' e' p', rdT (getT xs a hi) a ef pf = (v, a', e', p') := ⟨_, _, _, _, rfl⟩
          have hat := rdT_at hx a0 (by rw [Hlen.out]; exact a1) hst
          rw [Hlen.out] at hat
          have h1 := text_made R A n c xs a ef pf hi R wr.drew hI.1 hI.2.2.1.drew (by simpa using Nat.le_of_lt (Block.lt hI.1)) hm70 hnc hx a0 a2 hst
          have h2 := fun (w3 : World) (i3 : Inv w R w2.heap.size gI A A0 n c c0 xs a' e' p' a ef pf w3) => rText_any w2.heap.size A0 n c0 xs a ef pf hi w.heap.size w3 i3.2.1 (hb.call i3.bel hB) i3.bel.size hm70 hkc hx a0 a2 hst
          obtain ⟨sv, hsv⟩ : ∃ sv, strOfNums v = sv := ⟨_, rfl⟩
          rw [hsv] at h1 h2
          clear hst hsv t0 k0
          go_wp2_with fail
          go_region_held3 (fun w' => w'.cell? ⟨b, off + j * 3 + 2, none⟩ = some (.int .i64 hi)) (go_keep) (first
            | (go_at_call 37; refine h1.mono ?_; rintro e w3 ⟨rfl, hg3, hR3⟩; have i3 := Inv.prog (hI.drewN 1) hg3 hR3; have f3 := (i3.bel.cell (p := ⟨b, off + j * 3 + 2, none⟩) hbb).trans c3)
            | (go_at_call 41; refine (h2 _ i3).mono ?_; rintro e w4 ⟨rfl, hg4, hR4⟩; have i4 := Inv.ref i3 hg4 hR4; have g3 := (i4.bel.cell (p := ⟨b, off + j * 3 + 2, none⟩) hbb).trans c3))
          go_wp2_with fail
          go_meet
          exact ⟨by first | rfl | simp, a', e', p', hat.1, hat.2, i4⟩
        have t1 : (kd == 1) = false := by simpa using k1
        by_cases k2 : kd = 2
        · subst k2
          obtain ⟨v, a', e', p', hst⟩ : ∃ v a' e' p', rdN (Oct.getB xs a) a ef pf 0 hi 3 = (v, a', e', p') := ⟨_, _, _, _, rfl⟩
          have hat := rdN_at hx a0 (by rw [Hlen.out]; exact a1) hst
          rw [Hlen.out] at hat
          have h1 := count_made R A n c xs a ef pf hi R wr.drew hI.1 hI.2.2.1.drew (by simpa using Nat.le_of_lt (Block.lt hI.1)) hmx hnc hx a0 a2 hst
          have h2 := fun (w3 : World) (i3 : Inv w R w2.heap.size gI A A0 n c c0 xs a' e' p' a ef pf w3) => rCount_any w2.heap.size A0 n c0 xs a ef pf hi w.heap.size w3 i3.2.1 (hb.call i3.bel hB) i3.bel.size hmx hkc hx a0 a2 hst
          have tv : (v == v) = true := by simp
          clear hst t0 t1 k0 k1
          go_wp2_with fail
          go_region_held3 (fun w' => w'.cell? ⟨b, off + j * 3 + 2, none⟩ = some (.int .i64 hi)) (go_keep) (first
            | (go_at_call 38; refine h1.mono ?_; rintro e w3 ⟨rfl, hg3, hR3⟩; have i3 := Inv.prog (hI.drewN 1) hg3 hR3; have f3 := (i3.bel.cell (p := ⟨b, off + j * 3 + 2, none⟩) hbb).trans c3)
            | (go_at_call 42; refine (h2 _ i3).mono ?_; rintro e w4 ⟨rfl, hg4, hR4⟩; have i4 := Inv.ref i3 hg4 hR4; have g3 := (i4.bel.cell (p := ⟨b, off + j * 3 + 2, none⟩) hbb).trans c3))
          go_wp2_with fail
          go_meet
          exact ⟨rfl, a', e', p', hat.1, hat.2, i4⟩
        have t2 : (kd == 2) = false := by simpa using k2
        by_cases k3 : kd = 3
        · subst k3
          obtain ⟨v1, v2, hen⟩ : ∃ v1 v2, rdE n a ef pf = (v1, v2) := ⟨_, _, rfl⟩
          have h1 := end_made R A n c a ef pf wr hI.1 hen
          have h2 := fun (w3 : World) (i3 : Inv w R w2.heap.size gI A A0 n c c0 xs a ef pf a ef pf w3) => rEnd_any w2.heap.size A0 n c0 a ef pf w3 i3.2.1 hen
          clear hen t0 t1 t2 k0 k1 k2
          go_wp2_with fail
          refine h1.mono ?_
          rintro e w3 ⟨rfl, hb3⟩
          have i3 := hI.call hb3
          go_wp2_with fail
          refine (h2 _ i3).mono ?_
          rintro e w4 ⟨rfl, hb4⟩
          have i4 := i3.call hb4
          go_wp2_with fail
          go_meet
          exact ⟨by first | rfl | simp, a, ef, pf, a0, a1, i4⟩
        have t3 : (kd == 3) = false := by simpa using k3
        go_wp2_with fail
        go_meet
        exact ⟨rfl, a, ef, pf, a0, a1, hI⟩
      case rest =>
        obtain ⟨rfl, a', e', p', b0, b1, iC⟩ := hcut
        have h1 := at_made R A n c a' e' p' wc.drew iC.1
        have h2 := rfault_made R A n c a' e' p' wc.drew iC.1
        have s1 : wc.cell? ⟨w2.heap.size, 1, none⟩ = some (.int .i64 a') := Block.cell iC.2.1 1
        have s2 : wc.cell? ⟨w2.heap.size, 2, none⟩ = some (.int .i64 e') := Block.cell iC.2.1 2
        have s3 : wc.cell? ⟨w2.heap.size, 3, none⟩ = some (.int .i64 p') := Block.cell iC.2.1 3
        go_wp2_with fail
        go_region_held3 (fun w' => w'.cell? ⟨w2.heap.size, 1, none⟩ = some (.int .i64 a') ∧ w'.cell? ⟨w2.heap.size, 2, none⟩ = some (.int .i64 e') ∧ w'.cell? ⟨w2.heap.size, 3, none⟩ = some (.int .i64 p')) (go_keep) (first
          | (go_at_call 35; refine h1.mono ?_; rintro e w3 ⟨rfl, rfl⟩)
          | (go_at_call 36; refine h2.mono ?_; rintro e w5 ⟨rfl, hb5⟩; have i5 := Inv.call (iC.drewN 1) hb5; have s4 : w5.cell? ⟨w2.heap.size, 1, none⟩ = some (.int .i64 a') := Block.cell i5.2.1 1; have s5 : w5.cell? ⟨w2.heap.size, 2, none⟩ = some (.int .i64 e') := Block.cell i5.2.1 2; have s6 : w5.cell? ⟨w2.heap.size, 3, none⟩ = some (.int .i64 p') := Block.cell i5.2.1 3))
        go_wp2_with fail
        go_roundw
        case rel => exact ⟨j + 1, a', e', p', by omega, by go_num, b0, b1, i5⟩
        case measure => simp [intOf]; omega
    · obtain rfl : j = m := by omega
      obtain ⟨v1, v2, hen⟩ : ∃ v1 v2, rdE n a ef pf = (v1, v2) := ⟨_, _, rfl⟩
      have h1 := end_made R A n c a ef pf wr hI.1 hen
      have h2 := fun (w3 : World) (i3 : Inv w R w2.heap.size gI A A0 n c c0 xs a ef pf a ef pf w3) => rEnd_any w2.heap.size A0 n c0 a ef pf w3 i3.2.1 hen
      have h3 := fun (w4 : World) (i4 : Inv w R w2.heap.size gI A A0 n c c0 xs a ef pf a ef pf w4) => keptBytes_yes (some ⟨gI, 0, none⟩) A0 n (n + 3) c0 xs (gI + 1) w.heap.size w4 rfl (i4.2.2.2.1.shows (n := n + 3) (by simp [U8, lentB, markB, Hlen.out])) (hb.call i4.bel hB) i4.2.2.2.1.lt i4.bel.size (by omega) hx
      clear hen
      go_wp2_with fail
      refine h1.mono ?_
      rintro e w3 ⟨rfl, hb3⟩
      have i3 := hI.call hb3
      go_wp2_with fail
      refine (h2 _ i3).mono ?_
      rintro e w4 ⟨rfl, hb4⟩
      have i4 := i3.call hb4
      go_wp2_with fail
      refine (h3 _ i4).mono ?_
      rintro e w5 ⟨rfl, hb5⟩
      go_wp2_with fail
      refine (awake_true _).mono ?_
      rintro e w6 ⟨rfl, hb6⟩
      go_wp2_with fail
      go_ret
      exact ⟨rfl, bel_call (bel_call i4.bel hb5) hb6⟩
end Go.Proofs.Ytnhiipiciondoaa
