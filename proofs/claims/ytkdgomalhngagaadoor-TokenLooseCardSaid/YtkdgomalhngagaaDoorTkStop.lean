/- The walk of the state in a part that ends. -/
import Derived.Test.YtkdgomalhngagaaDoorTkWithin
import Derived.Test.YtkdgomalhngagaaDoorTkShelf
import Derived.Deep.RegionWith
import Derived.Deep.CutBlock
namespace Go.Proofs.YtkdgomalhngagaaDoor
open Go.RowKit Go.Lib

theorem nums_extract (s : ByteArray) (a b : Nat) : nums (s.extract a b) = ((nums s).take b).drop a := by
  unfold nums
  rw [ByteArray.data_extract, Array.toList_extract, List.extract_eq_take_drop, List.map_take, List.map_drop, List.drop_take]
theorem dw_nil (p : UInt8 → Bool) (l : List UInt8) : l.dropWhile p = [] ↔ ∀ x ∈ l, p x = true := by
  induction l with
  | nil => simp
  | cons a t ih =>
    rw [List.dropWhile_cons]
    by_cases h : p a = true
    · rw [if_pos h, ih]; simp [h]
    · rw [if_neg h]; simp [h]
theorem dw_mem (p : UInt8 → Bool) (l : List UInt8) (b : UInt8) (hb : b ∈ l) (h : ¬ p b = true) : b ∈ l.dropWhile p := by
  induction l with
  | nil => cases hb
  | cons a t ih =>
    rw [List.dropWhile_cons]
    by_cases ha : p a = true
    · rw [if_pos ha]
      rcases List.mem_cons.1 hb with rfl | g
      · exact absurd ha h
      · exact ih g
    · rw [if_neg ha]; exact hb
theorem trim_empty (l : List UInt8) (cs : List UInt8) : Lib.trimS l cs = [] ↔ ∀ b ∈ l, cs.contains b = true := by
  unfold Lib.trimS Lib.trimLeftS Lib.trimRightS
  rw [dw_nil]
  constructor
  · intro h b hb
    by_cases hc : cs.contains b = true
    · exact hc
    · exact h b (List.mem_reverse.2 (dw_mem _ l.reverse b (List.mem_reverse.2 hb) hc))
  · intro h x hx
    exact h x (List.mem_reverse.1 ((List.dropWhile_sublist _).subset (List.mem_reverse.1 hx)))
/-- Are all bytes digits? -/
theorem trim_digits (s : ByteArray) : Lib.trimS s.data.toList [48, 49, 50, 51, 52, 53, 54, 55, 56, 57] = [] ↔ ∀ c ∈ nums s, Tok.isD c := by
  rw [trim_empty]
  unfold nums Tok.isD
  simp only [List.mem_map, forall_exists_index, and_imp, forall_apply_eq_imp_iff₂]
  have k : ∀ b : UInt8, ([48, 49, 50, 51, 52, 53, 54, 55, 56, 57] : List UInt8).contains b = true ↔ 48 ≤ (b.toNat : Int) ∧ (b.toNat : Int) ≤ 57 := by
    intro b
    have e : ∀ n : Nat, n < 256 → (b = UInt8.ofNat n ↔ b.toNat = n) := fun n hn => by rw [← UInt8.toNat_inj, UInt8.toNat_ofNat']; omega
    simp only [List.contains_cons, List.contains_nil, Bool.or_false, Bool.or_eq_true, beq_iff_eq]
    have e0 := e 48 (by omega); have e1 := e 49 (by omega); have e2 := e 50 (by omega); have e3 := e 51 (by omega); have e4 := e 52 (by omega)
    have e5 := e 53 (by omega); have e6 := e 54 (by omega); have e7 := e 55 (by omega); have e8 := e 56 (by omega); have e9 := e 57 (by omega)
    change (b = 48 ↔ _) at e0; change (b = 49 ↔ _) at e1; change (b = 50 ↔ _) at e2; change (b = 51 ↔ _) at e3; change (b = 52 ↔ _) at e4
    change (b = 53 ↔ _) at e5; change (b = 54 ↔ _) at e6; change (b = 55 ↔ _) at e7; change (b = 56 ↔ _) at e8; change (b = 57 ↔ _) at e9
    rw [e0, e1, e2, e3, e4, e5, e6, e7, e8, e9]
    omega
  exact ⟨fun h b hb => (k b).1 (h b hb), fun h b hb => (k b).2 (h b hb)⟩
theorem bel_of_drew {B : Nat} {w w' : World} (h : Below B w.drew w') : Below B w w' := ⟨h.os, h.tape, h.output, h.size, h.block⟩
theorem bel_of_drewN {B k : Nat} {w w' : World} (h : Below B (w.drewN k) w') : Below B w w' := ⟨h.os, h.tape, h.output, h.size, h.block⟩
theorem str_ne {R : ByteArray} (h : R ≠ ⟨#[]⟩) : (R == ⟨#[]⟩) = false := by
  cases R with
  | mk d =>
    have : d ≠ #[] := fun e => h (by rw [e])
    show (d == #[]) = false
    simpa using this
theorem str_ne2 {R : ByteArray} (h : R ≠ ⟨#[]⟩) : R.toList.isEmpty = false := by
  rw [ByteArray.toList_eq]
  cases R with
  | mk d =>
    cases e : d.toList with
    | nil => exact absurd (by rw [show d = #[] from Array.toList_eq_nil_iff.1 e]) h
    | cons a l => rfl
theorem up_byte {c : Int} (h : 0 ≤ c ∧ c ≤ 255) : 0 ≤ Tok.up c ∧ Tok.up c ≤ 255 := by unfold Tok.up; split <;> omega
theorem map_up_byte {l : List Int} (h : ∀ x ∈ l, 0 ≤ x ∧ x ≤ 255) : ∀ x ∈ l.map Tok.up, 0 ≤ x ∧ x ≤ 255 := by
  intro x hx
  obtain ⟨y, hy, rfl⟩ := List.mem_map.1 hx
  exact up_byte (h y hy)
theorem slice_byte (s : ByteArray) (p i : Nat) : ∀ x ∈ ((nums s).take i).drop p, 0 ≤ x ∧ x ≤ 255 := fun x hx => nums_byte s x ((List.take_sublist i _).subset ((List.drop_sublist p _).subset hx))
/-- What a part's text is. -/
theorem part_facts {s T : ByteArray} {p i : Nat} {acc : List Int} (hi : i ≤ s.size) (h1 : p < i) (hacc : ((nums s).take i).drop p = acc) (hT : strOfNums (acc.map Tok.up) = T) :
    ∃ t0 : Nat, 0 < T.size ∧ (T.size ≤ s.size ∧ ∀ h : 0 < T.size, T[0].toNat = t0) ∧ t0 < 256 ∧ (Tok.isL (t0 : Int) ↔ Tok.isL ((acc.map Tok.up).headD 0)) ∧ (Lib.trimS T.data.toList [48, 49, 50, 51, 52, 53, 54, 55, 56, 57] = [] ↔ ∀ c ∈ acc.map Tok.up, Tok.isD c) := by
  have hb : ∀ x ∈ acc.map Tok.up, 0 ≤ x ∧ x ≤ 255 := map_up_byte (hacc ▸ slice_byte s p i)
  have hn : nums T = acc.map Tok.up := by rw [← hT, nums_str _ hb]
  have hl : T.size = i - p := by
    rw [← nums_len T, hn, List.length_map, ← hacc, List.length_drop, List.length_take, nums_len]
    omega
  have h0 : 0 < T.size := by omega
  refine ⟨T[0].toNat, h0, ⟨by omega, fun _ => rfl⟩, T[0].toNat_lt, ?_, ?_⟩
  · have := cAt_get T 0 h0
    rw [← this, ← hn]
    unfold cAt
    cases nums T <;> rfl
  · rw [trim_digits, hn]
theorem shows_tkT (w : World) (k : Int) (T : ByteArray) (l : List Int) (hT : strOfNums l = T) (t : TypeId) (g : Nat) (hg : g = w.heap.size) : Shows (w.alloc (.cells #[.int .i64 k, .string T] t)) (g + 1) 2 (some ⟨g, 0, none⟩) 1 (TC [(k, l)]) := by
  subst hT
  exact shows_tk w (k, l) t g hg
set_option maxRecDepth 100000 in
set_option maxHeartbeats 8000000 in
theorem within_stop {w : World} {C : Nat} {s : ByteArray} {out : List Tok.Tk} {p : Nat} (h : CutT w C s out p) (hs : s.size ≤ 1000000) (i : Nat) (hi : i ≤ s.size) (h1 : p < i) (hn : out.length ≤ 1000000) (hg : ¬ goesOn s i) :
    Calls Tryd.prog 36 #[.pointer (some ⟨C, 0, none⟩), .int .i64 (i : Int)] w (StepR C s (decide (Tok.snd (cAt s i))) (apO (cAt s i) (out ++ [Tok.tok (((nums s).take i).drop p)])) i w) := by
  obtain ⟨A, n, cp, hcut0, hown, hlen⟩ := h
  have hn' : n ≤ 1000000 := by omega
  have Hlen := Lib.hid hlen
  have Hn := Lib.hid hn
  clear hlen hn
  obtain ⟨i0, hi0, hz0, hz1, hz2⟩ := info_parts infoT
  have hS := fun {w' : World} (h : Cut w' C s (.slice A n cp) p) => sound_at h (by omega) i
  have hK := fun {w' : World} (h : Cut w' C s (.slice A n cp) p) => class_at h (by omega) i
  have hM := fun {w' : World} (h : Cut w' C s (.slice A n cp) p) => sound_at h (by omega) (i - 1)
  have hN := fun {w' : World} (h : Cut w' C s (.slice A n cp) p) => sound_at h (by omega) (i + 1)
  rw [show ((i - 1 : Nat) : Int) = (i : Int) - 1 by omega] at hM
  rw [show ((i + 1 : Nat) : Int) = (i : Int) + 1 by omega] at hN
  obtain ⟨acc, hacc⟩ : ∃ acc, ((nums s).take i).drop p = acc := ⟨_, rfl⟩
  have hup := fun w => upper_any (s.extract p i) (by rw [ByteArray.size_extract]; omega) w
  rw [nums_extract, hacc] at hup
  obtain ⟨T, hT⟩ : ∃ T, strOfNums (acc.map Tok.up) = T := ⟨_, rfl⟩
  rw [hT] at hup
  have Hpf := Lib.hid (part_facts hi h1 hacc hT)
  rw [hacc]
  have HT := Lib.hid hT
  have Hup := Lib.hid hup
  clear hacc hT hup
  have Hown := Lib.hid hown
  clear hown
  go_enter Tryd.func36, Tryd.ntmps36
  go_upto_region 1 with fail
  go_cut [27] (fun b wx => b = .bool false ∧ CutAt wx C s A n cp out p ∧ Below C w wx)
  case first =>
    have hx : ¬ Tok.snd (cAt s i) := fun g => hg (.inl g)
    rw [decide_eq_false hx] at hS
    by_cases hJ : Tok.isJ (cAt s i)
    · rw [cls_J hx hJ] at hK
      by_cases hm : Tok.snd (cAt s (i - 1))
      · have hnn : ¬ Tok.snd (cAt s (i + 1)) := fun g => hg (.inr ⟨hJ, hm, g⟩)
        rw [decide_eq_true hm] at hM
        rw [decide_eq_false hnn] at hN
        clear hg hx hJ hm hnn
        go_wp2_with fail
        refine (hS hcut0).mono ?_
        rintro e w1 ⟨rfl, k1, hk1⟩
        have hc1 : Cut w1 C s (.slice A n cp) p := by subst hk1; exact hcut0
        have Hk1 := Lib.hid hk1
        clear hk1
        go_wp2_with fail
        refine (hK hc1).mono ?_
        rintro e w2 ⟨rfl, k2, hk2⟩
        have hc2 : Cut w2 C s (.slice A n cp) p := by subst hk2; exact hc1
        have Hk2 := Lib.hid hk2
        clear hk2
        go_wp2_with fail
        refine (hM hc2).mono ?_
        rintro e w3 ⟨rfl, k3, hk3⟩
        have hc3 : Cut w3 C s (.slice A n cp) p := by subst hk3; exact hc2
        have Hk3 := Lib.hid hk3
        clear hk3
        go_wp2_with fail
        refine (hN hc3).mono ?_
        rintro e w4 ⟨rfl, k4, hk4⟩
        have hc4 : Cut w4 C s (.slice A n cp) p := by subst hk4; exact hc3
        have Hk4 := Lib.hid hk4
        clear hk4
        go_wp2_with fail
        go_meet
        have e1 := Hk1.out
        have e2 := Hk2.out
        have e3 := Hk3.out
        have e4 := Hk4.out
        subst e1 e2 e3 e4
        exact ⟨rfl, ⟨hcut0, Hown.out⟩, below_drewN (below_drewN (below_drewN (below_drewN (Below.refl C w) k1) k2) k3) k4⟩
      · rw [decide_eq_false hm] at hM
        clear hg hx hJ hm
        go_wp2_with fail
        refine (hS hcut0).mono ?_
        rintro e w1 ⟨rfl, k1, hk1⟩
        have hc1 : Cut w1 C s (.slice A n cp) p := by subst hk1; exact hcut0
        have Hk1 := Lib.hid hk1
        clear hk1
        go_wp2_with fail
        refine (hK hc1).mono ?_
        rintro e w2 ⟨rfl, k2, hk2⟩
        have hc2 : Cut w2 C s (.slice A n cp) p := by subst hk2; exact hc1
        have Hk2 := Lib.hid hk2
        clear hk2
        go_wp2_with fail
        refine (hM hc2).mono ?_
        rintro e w3 ⟨rfl, k3, hk3⟩
        have hc3 : Cut w3 C s (.slice A n cp) p := by subst hk3; exact hc2
        have Hk3 := Lib.hid hk3
        clear hk3
        go_wp2_with fail
        go_meet
        have e1 := Hk1.out
        have e2 := Hk2.out
        have e3 := Hk3.out
        subst e1 e2 e3
        exact ⟨rfl, ⟨hcut0, Hown.out⟩, below_drewN (below_drewN (below_drewN (Below.refl C w) k1) k2) k3⟩
    · have h4 := cls_nJ hJ
      generalize clsN (cAt s i) = v at *
      have t4 : (v == 4) = false := by simpa using h4
      clear hg hx hJ h4
      go_wp2_with fail
      refine (hS hcut0).mono ?_
      rintro e w1 ⟨rfl, k1, hk1⟩
      have hc1 : Cut w1 C s (.slice A n cp) p := by subst hk1; exact hcut0
      have Hk1 := Lib.hid hk1
      clear hk1
      go_wp2_with fail
      refine (hK hc1).mono ?_
      rintro e w2 ⟨rfl, k2, hk2⟩
      have hc2 : Cut w2 C s (.slice A n cp) p := by subst hk2; exact hc1
      have Hk2 := Lib.hid hk2
      clear hk2
      go_wp2_with fail
      go_meet
      have e1 := Hk1.out
      have e2 := Hk2.out
      subst e1 e2
      exact ⟨rfl, ⟨hcut0, Hown.out⟩, below_drewN (below_drewN (Below.refl C w) k1) k2⟩
  case rest =>
    obtain ⟨rfl, ⟨hcw, how⟩, hbw⟩ := hcut
    clear hS hK hM hN
    have hup := Hup.out
    obtain ⟨t0, ht0, htk, ht1, ht2, ht3⟩ := Hpf.out
    clear Hup Hpf
    have c0 := hcw.str
    have c258 := hcw.at_
    have hlt := hcw.lt
    go_upto_region 3 with fail
    go_cut [5] (fun tv wx => tv = .string T ∧ CutAt wx C s A n cp out p ∧ Below C w wx)
    case first =>
      go_region_with (go_at_call 14; refine (hup _).mono ?_; rintro e w1 ⟨rfl, hb1⟩)
      all_goals
        go_wp2_with fail
        go_meet
        have hb1' := bel_of_drew hb1
        exact ⟨rfl, ⟨Block.call hcw hb1', own_below how hb1'⟩, hbw.trans (hb1'.mono (Nat.le_of_lt hlt))⟩
    case rest =>
      clear c0 c258 hup hcw how hbw hlt
      obtain ⟨rfl, ⟨hcw, how⟩, hbw⟩ := hcut
      have c1 := hcw.cls ht1
      have htr := fun w => Tryd.strings_Trim_laid T w (by omega)
      obtain ⟨hts, htk⟩ := htk
      have htk := htk ht0
      have hq : T[0].toNat < 256 := T[0].toNat_lt
      have Htk := Lib.hid htk
      have Hlt := Lib.hid hcw.lt
      go_upto_block 0 with fail
      go_cut [6] (fun kv wx => kv = .int .i64 (Tok.kind (acc.map Tok.up)) ∧ CutAt wx C s A n cp out p ∧ Below C w wx)
      case first =>
        by_cases hL : Tok.isL ((acc.map Tok.up).headD 0)
        · have hk : Tok.kind (acc.map Tok.up) = 1 := by unfold Tok.kind; rw [if_pos hL]
          rw [cls_L (ht2.2 hL)] at c1
          have Hk := Lib.hid hk
          clear hk hL ht2 ht3
          go_wp2_with fail
          go_quiet (fail)
          go_wp2_with fail
          go_meet
          exact ⟨congrArg (Value.int IntKind.i64) Hk.out.symm, ⟨hcw, how⟩, below_drewN hbw _⟩
        · have hv : clsN (t0 : Int) ≠ 2 := by
            intro e
            refine hL (ht2.1 ?_)
            by_cases g : Tok.isL (t0 : Int)
            · exact g
            · exfalso
              unfold clsN at e
              rw [if_neg g] at e
              revert e
              repeat' split
              all_goals omega
          generalize clsN (t0 : Int) = v at *
          have tv : (v == 2) = false := by simpa using hv
          obtain ⟨R, hR⟩ : ∃ R, (⟨(Lib.trimS T.data.toList [48, 49, 50, 51, 52, 53, 54, 55, 56, 57]).toArray⟩ : ByteArray) = R := ⟨_, rfl⟩
          rw [hR] at htr
          by_cases hD : ∀ c ∈ acc.map Tok.up, Tok.isD c
          · have hk : Tok.kind (acc.map Tok.up) = 2 := by unfold Tok.kind; rw [if_neg hL, if_pos hD]
            have hR0 : R = ⟨#[]⟩ := by rw [← hR, ht3.2 hD]
            subst hR0
            have Hk := Lib.hid hk
            clear hk hL hD ht2 ht3 hv hR
            go_wp2_with fail
            go_quiet (fail)
            go_wp2_with fail
            refine (htr _).mono ?_
            rintro e w1 ⟨rfl, hb1⟩
            go_wp2_with fail
            go_meet
            have hb1' := bel_of_drewN hb1
            exact ⟨congrArg (Value.int IntKind.i64) Hk.out.symm, ⟨Block.call hcw hb1', own_below how hb1'⟩, hbw.trans (hb1'.mono (Nat.le_of_lt Hlt.out))⟩
          · have hk : Tok.kind (acc.map Tok.up) = 3 := by unfold Tok.kind; rw [if_neg hL, if_neg hD]
            have hR0 : R ≠ ⟨#[]⟩ := by
              rintro rfl
              refine hD (ht3.1 ?_)
              have := congrArg (fun x : ByteArray => x.data.toList) hR
              simpa using this
            have tR : (R == ⟨#[]⟩) = false := str_ne hR0
            have tR2 : R.toList.isEmpty = false := str_ne2 hR0
            have Hk := Lib.hid hk
            clear hk hL hD ht2 ht3 hv hR hR0
            go_wp2_with fail
            go_quiet (fail)
            go_wp2_with fail
            refine (htr _).mono ?_
            rintro e w1 ⟨rfl, hb1⟩
            go_wp2_with fail
            go_meet
            have hb1' := bel_of_drewN hb1
            exact ⟨congrArg (Value.int IntKind.i64) Hk.out.symm, ⟨Block.call hcw hb1', own_below how hb1'⟩, hbw.trans (hb1'.mono (Nat.le_of_lt Hlt.out))⟩
      case rest =>
        clear hcw how hbw c1 ht1 htk Htk htr ht2 ht3 hts hq ht0
        obtain ⟨rfl, ⟨hcw, how⟩, hbw⟩ := hcut
        have hz := hcw.lt
        have c257 := hcw.out
        have f257 := hcw.free 257
        obtain ⟨K, hK⟩ : ∃ K, Tok.kind (acc.map Tok.up) = K := ⟨_, rfl⟩
        have HK := Lib.hid hK
        rw [hK]
        clear hK
        go_wp2_with (at_builtin; refine wpList_append_shows _ rfl _ _ 22 rfl (C + 1) 31 i0 (.agg #[.int .i64 0, .string ⟨#[]⟩]) 2 24 Tryd.underlying22 hi0 hz0 hz1 hz2 rfl (by decide) _ n (TC out) rfl (by exact World.ownsRow.alloc how _) _ (some ⟨wc.heap.size, 0, none⟩) 1 1 (TC [(K, acc.map Tok.up)]) rfl (by exact shows_tkT wc K T _ HT.out _ _ rfl) (tc_one _) (by unfold maxLen; omega) (by omega) (by simp; omega) ?_; intro A2 c2 w2 hown2 hg2; have hcut2 := Cut.grown (Cut.alloc hcw _) (World.ownsRow.alloc how _) hg2; have d257 := hcut2.out; have f2 := hcut2.free 257)
        have hq2 : CutT (w2.setCell ⟨C, 257, none⟩ (.slice A2 (n + 1) c2)) C s (out ++ [(K, acc.map Tok.up)]) p := by
          refine ⟨A2, n + 1, c2, hcut2.setSl _, ?_, by simp [Hlen.out]⟩
          rw [tc_append]
          exact ownsRow_setCell_below hown2 (a := ⟨C, 257, none⟩) (Nat.lt_succ_self _) _
        have hb2 : Below C w (w2.setCell ⟨C, 257, none⟩ (.slice A2 (n + 1) c2)) := ((hbw.trans ((Below.refl C wc).alloc (Nat.le_of_lt hz) _)).trans (below_own (World.ownsRow.alloc how _) (by simp; omega) hg2)).setCell (p := ⟨C, 257, none⟩) (Nat.le_refl _) _
        refine (apart_at hq2 hs i hi (by have := Hn.out; simp; omega)).mono ?_
        rintro e w3 ⟨rfl, hq3, hb3⟩
        go_wp2_with fail
        go_ret
        refine ⟨rfl, ?_, hb2.trans hb3⟩
        unfold Tok.tok
        rw [HK.out]
        exact hq3
end Go.Proofs.YtkdgomalhngagaaDoor
