/- The walks of the document's next and Tokens. -/
import Derived.Test.YtkdgomalhngagaaDoorTkRef2
import Derived.Test.YtkdgomalhngagaaDoorTkTokens
namespace Go.Proofs.YtkdgomalhngagaaDoor
open Go.RowKit Go.Lib

/-- The token at a place, and where it ends. -/
inductive Nxt (s : ByteArray) (a : Nat) : Tok.Tk → Nat → Prop
  | comma : cAt s a = 44 → Nxt s a (4, [44]) (a + 1)
  | hash : cAt s a = 35 → Nxt s a (5, [35]) (a + 1)
  | none : cAt s a ≠ 44 → cAt s a ≠ 35 → ¬ goesOn s a → Nxt s a (0, []) (a + 1)
  | part (e : Nat) : cAt s a ≠ 44 → cAt s a ≠ 35 → a < e → e ≤ s.size → (∀ j, a ≤ j → j < e → goesOn s j) → ¬ goesOn s e → Nxt s a (Tok.tok (((nums s).take e).drop a)) e
def NxtR (s : ByteArray) (a : Nat) (w : World) (e : Ending) (w' : World) : Prop := ∃ (t : Tok.Tk) (b : Nat), Nxt s a t b ∧ e = .returned (.tuple #[.agg #[.int .i64 t.1, .string (strOfNums t.2)], .int .i64 (b : Int)]) ∧ Below w.heap.size w w'
section
variable {P : Program} {fn : Func} {R : Ending → World → Prop} {a : Act} {w : World} {T t : TypeId} {b : Nat} {cs : List Value}
theorem ret_ct {x p : Tmp} (hr : fn.results = #[.cell p T, .tmp x]) (hd : a.defers = []) (hp : a.tmps.getD p undef = .pointer (some ⟨b, 0, none⟩)) (hb : Block w b t cs) (ha : ∀ w, (isAgg T).run P w = .ok true w) (hs : ∀ w, (sizeOf T).run P w = .ok cs.length w)
    (hR : R (.returned (.tuple #[.agg cs.toArray, a.tmps.getD x undef])) w) : bodyPost P fn R .ret a w := by
  refine bodyPost_ret (v := .tuple #[.agg cs.toArray, a.tmps.getD x undef]) ?_ hd hR
  simp only [results, hr]
  simp [Sem.run_bind, Result.andThen]
  rw [show a.tmps[p]?.getD undef = .pointer (some ⟨b, 0, none⟩) by rw [← hp]; simp]
  simp [asAddr, Sem.run_pure, run_loadVar_block hb ha hs]
end
theorem agg_token (w : World) : (isAgg 31).run Tryd.prog w = .ok true w := by kernel_rfl
theorem size_token (w : World) : (sizeOf 31).run Tryd.prog w = .ok 2 w := by kernel_rfl
set_option maxRecDepth 100000 in
set_option maxHeartbeats 4000000 in
theorem next_any (s : ByteArray) (hs : s.size ≤ 1000000) (a : Nat) (ha : a < s.size) (w : World) : Calls Tryd.prog 27 #[.string s, .int .i64 (a : Int)] w (NxtR s a w) := by
  have hl := nums_len s
  have hg := cAt_get s a ha
  have B0 := Block.new w 31 [.int .i64 0, .string ⟨#[]⟩]
  by_cases h44 : cAt s a = 44
  · have Hn := Lib.hid (Nxt.comma h44)
    rw [hg] at h44
    clear hg hl
    go_enter Tryd.func27, Tryd.ntmps27
    go_wp2_with fail
    exact ret_ct (T := 31) rfl rfl rfl (Block.new w 31 [.int .i64 4, .string ⟨#[44]⟩]) agg_token size_token ⟨_, _, Hn.out, rfl, bel_alloc (Below.refl _ _) _⟩
  · by_cases h35 : cAt s a = 35
    · have Hn := Lib.hid (Nxt.hash h35)
      rw [hg] at h35
      clear hg hl h44
      go_enter Tryd.func27, Tryd.ntmps27
      go_wp2_with fail
      exact ret_ct (T := 31) rfl rfl rfl (Block.new w 31 [.int .i64 5, .string ⟨#[35]⟩]) agg_token size_token ⟨_, _, Hn.out, rfl, bel_alloc (Below.refl _ _) _⟩
    · have Hl := Lib.hid hl
      have H44 := Lib.hid h44
      have H35 := Lib.hid h35
      have t44 : ((s[a].toNat : Int) == 44) = false := by rw [← hg]; simpa using h44
      have t35 : ((s[a].toNat : Int) == 35) = false := by rw [← hg]; simpa using h35
      clear hg hl h44 h35
      go_enter Tryd.func27, Tryd.ntmps27
      go_wp2_with fail
      go_loopw [6] (fun i wr => ∃ e : Nat, a ≤ e ∧ e ≤ s.size ∧ i = .int .i64 e ∧ Hid (∀ j, a ≤ j → j < e → goesOn s j) ∧ wr = w.alloc (.cells #[.int .i64 0, .string ⟨#[]⟩] 31)) (fun i _ => s.size - (RowKit.intOf i).toNat)
      case atStart => exact ⟨a, by omega, by omega, rfl, Lib.hid (fun j h1 h2 => absurd h1 (by omega)), rfl⟩
      case round =>
        obtain ⟨e, he1, he2, rfl, Hg, rfl⟩ := hrel
        by_cases hw : e < s.size ∧ goesOn s e
        · obtain ⟨hlt, hgo⟩ := hw
          have hW := fun w => word_is s hs e hlt w
          rw [decide_eq_true hgo] at hW
          have q1 : (e : Int) < (s.size : Int) := by omega
          have Hn : Hid (∀ j, a ≤ j → j < e + 1 → goesOn s j) := Lib.hid (fun j h1 h2 => by
            rcases (by omega : j < e ∨ j = e) with g | rfl
            · exact Hg.out j h1 g
            · exact hgo)
          clear hgo
          go_wp2_with fail
          refine (hW _).mono ?_
          rintro e1 w1 ⟨rfl, rfl⟩
          go_wp2_with fail
          go_roundw
          case rel => exact ⟨e + 1, by omega, by omega, by go_num, Hn, by trivial⟩
          case measure => simp [RowKit.intOf]; omega
        · have hng : ¬ goesOn s e := fun h => hw ⟨by have := Tok.goes_lt (l := nums s) h; rw [Hl.out] at this; exact this, h⟩
          have Hng := Lib.hid hng
          have hW := fun (h : e < s.size) w => word_is s hs e h w
          rw [decide_eq_false hng] at hW
          by_cases hea : e = a
          · subst hea
            have Hn := Lib.hid (Nxt.none H44.out H35.out Hng.out)
            have hW := hW ha
            clear hng hw
            go_wp2_with fail
            refine (hW _).mono ?_
            rintro e1 w1 ⟨rfl, rfl⟩
            go_wp2_with fail
            exact ret_ct (T := 31) rfl rfl rfl (Block.new w 31 [.int .i64 0, .string ⟨#[]⟩]) agg_token size_token ⟨_, _, Hn.out, rfl, bel_alloc (Below.refl _ _) _⟩
          · have Hn := Lib.hid (Nxt.part e H44.out H35.out (by omega) he2 Hg.out Hng.out)
            have hea' : ((e : Int) == (a : Int)) = false := by simp; omega
            have hup := fun w => rupper_any (s.extract a e) (by rw [ByteArray.size_extract]; omega) w
            rw [nums_extract] at hup
            obtain ⟨acc, hacc⟩ : ∃ acc, ((nums s).take e).drop a = acc := ⟨_, rfl⟩
            rw [hacc] at hup Hn
            obtain ⟨T, hT⟩ : ∃ T, strOfNums (acc.map Tok.up) = T := ⟨_, rfl⟩
            have hnT : nums T = acc.map Tok.up := by rw [← hT, nums_str _ (map_up_byte (hacc ▸ slice_byte s a e))]
            have hTs : T.size = e - a := by rw [← nums_len T, hnT, List.length_map, ← hacc, List.length_drop, List.length_take, Hl.out]; omega
            have hkd := fun w => kind_any T (by omega) (by omega) w
            rw [hnT] at hkd
            rw [hT] at hup
            have HT := Lib.hid hT
            obtain ⟨K, hK⟩ : ∃ K, Tok.kind (acc.map Tok.up) = K := ⟨_, rfl⟩
            have HK := Lib.hid hK
            rw [hK] at hkd
            clear hng hw hnT hacc hT hK
            by_cases hlt : e < s.size
            · have hW := hW hlt
              have q1 : (e : Int) < (s.size : Int) := by omega
              go_wp2_with fail
              refine (hW _).mono ?_
              rintro e1 w1 ⟨rfl, rfl⟩
              go_wp2_with fail
              refine (hup _).mono ?_
              rintro e1 w1 ⟨rfl, hb1⟩
              go_wp2_with fail
              refine (hkd _).mono ?_
              rintro e1 w2 ⟨rfl, rfl⟩
              have hB := Block.call B0 hb1
              have c0 : w1.cell? ⟨w.heap.size, 0, none⟩ = some (.int .i64 0) := hB.cell 0
              have c1 : w1.cell? ⟨w.heap.size, 1, none⟩ = some (.string ⟨#[]⟩) := hB.cell 1
              have f0 : w1.frozen? ⟨w.heap.size, 0, none⟩ = false := hB.free 0
              have f1 : w1.frozen? ⟨w.heap.size, 1, none⟩ = false := hB.free 1
              go_wp2_with fail
              refine ret_ct (T := 31) rfl rfl rfl ((hB.set 0 (.int .i64 K)).set 1 (.string T)) agg_token size_token ⟨_, _, Hn.out, ?_, bel_set (p := ⟨w.heap.size, 1, none⟩) (bel_set (p := ⟨w.heap.size, 0, none⟩) (bel_call (bel_alloc (Below.refl _ _) _) hb1) (Nat.le_refl _) _) (Nat.le_refl _) _⟩
              unfold Tok.tok
              rw [HK.out, HT.out]
              rfl
            · obtain rfl : e = s.size := by omega
              go_wp2_with fail
              refine (hup _).mono ?_
              rintro e1 w1 ⟨rfl, hb1⟩
              go_wp2_with fail
              refine (hkd _).mono ?_
              rintro e1 w2 ⟨rfl, rfl⟩
              have hB := Block.call B0 hb1
              have c0 : w1.cell? ⟨w.heap.size, 0, none⟩ = some (.int .i64 0) := hB.cell 0
              have c1 : w1.cell? ⟨w.heap.size, 1, none⟩ = some (.string ⟨#[]⟩) := hB.cell 1
              have f0 : w1.frozen? ⟨w.heap.size, 0, none⟩ = false := hB.free 0
              have f1 : w1.frozen? ⟨w.heap.size, 1, none⟩ = false := hB.free 1
              go_wp2_with fail
              refine ret_ct (T := 31) rfl rfl rfl ((hB.set 0 (.int .i64 K)).set 1 (.string T)) agg_token size_token ⟨_, _, Hn.out, ?_, bel_set (p := ⟨w.heap.size, 1, none⟩) (bel_set (p := ⟨w.heap.size, 0, none⟩) (bel_call (bel_alloc (Below.refl _ _) _) hb1) (Nat.le_refl _) _) (Nat.le_refl _) _⟩
              unfold Tok.tok
              rw [HK.out, HT.out]
              rfl
end Go.Proofs.YtkdgomalhngagaaDoor
