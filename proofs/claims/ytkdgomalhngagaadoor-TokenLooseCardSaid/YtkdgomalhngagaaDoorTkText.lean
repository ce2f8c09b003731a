/- The walk of token.Text. -/
import Derived.Test.YtkdgomalhngagaaDoorTkMay
import Derived.Test.YtkdgomalhngagaaDoorTkShelf2
namespace Go.Proofs.YtkdgomalhngagaaDoor
open Go.RowKit

theorem bld_call {B b : Nat} {bs : List Value} {w w' : World} (h : Lib.IsBuilderF 59 5 B b bs w) (hb : Below w.heap.size w w') : Lib.IsBuilderF 59 5 B b bs w' := by
  have k : ∀ p, Lib.BuilderAtF 59 5 B b p bs w → Lib.BuilderAtF 59 5 B b p bs w' := by
    rintro p ⟨h1, v, h2, ⟨h3, h4⟩, h5⟩
    refine ⟨h1, v, ?_, ⟨h3, ?_⟩, h5⟩
    · refine (hb.block b ?_).trans h2
      rcases Nat.lt_or_ge b w.heap.size with g | g
      · exact g
      · rw [Array.getElem?_eq_none g] at h2; cases h2
    · rcases h4 with h4 | ⟨g, cap, cur, fz, e1, e2, e3, e4⟩
      · exact .inl h4
      · refine .inr ⟨g, cap, cur, fz, e1, e2, (hb.block g ?_).trans e3, e4⟩
        rcases Nat.lt_or_ge g w.heap.size with k | k
        · exact k
        · rw [Array.getElem?_eq_none k] at e3; cases e3
  exact h.elim (fun x => .inl (k _ x)) (fun x => .inr (k _ x))
theorem strCells_app (a b : ByteArray) : Lib.strCells a ++ Lib.strCells b = Lib.strCells (a ++ b) := by simp [Lib.strCells]
theorem kept_block {b g : Nat} {w w' : World} {t : TypeId} {cs : List Value} (h : Lib.OthersKept 5 (some b) w w') (hB : Block w g t cs) (hg : g ≠ b) (ht : t ≠ 5) : Block w' g t cs :=
  h g _ hB (fun e => hg (Option.some.inj e)) (fun c fz e => by injection e with _ e2 _; exact ht e2)
set_option maxRecDepth 100000 in
set_option maxHeartbeats 8000000 in
theorem text_any {A : Option Addr} {n c B : Nat} {l : List Tok.Tk} (w : World) (hA : Shows w B 2 A n (TC l)) (hB : B ≤ w.heap.size) (hn : n ≤ 9223372036854775807) (hok : Okl l) :
    Calls Tryd.prog 18 #[.slice A n c] w fun e w' => e = .returned (.tuple #[.string (strOfNums (Tok.textF l).1), .int .i64 (Tok.textF l).2]) ∧ Below w.heap.size w w' := by
  have hln := hA.numT
  by_cases h40 : 40 < n
  · rw [Tok.textF_full (by omega)]
    clear hln
    go_enter Tryd.func18, Tryd.ntmps18
    go_wp2_with fail
    go_ret2
    exact ⟨rfl, Below.refl _ _⟩
  · have Hn := Lib.hid hln
    have Hok := Lib.hid hok
    clear hln hok
    go_enter Tryd.func18, Tryd.ntmps18
    go_wp2_with fail
    go_loopw [12] (fun i wr => ∃ (a : Nat) (acc : List Int), a ≤ n ∧ i = .int .i64 a ∧ acc.length ≤ 201 * a ∧ Hid (∀ x ∈ l.take a, Tok.mayF x) ∧ Hid (acc ++ Tok.jn (Tok.pAt l a) (l.drop a) = Tok.textL l) ∧ Lib.IsBuilderF 59 5 w.heap.size w.heap.size (Lib.strCells (strOfNums acc)) wr ∧ Below w.heap.size w wr) (fun i _ => n - (RowKit.intOf i).toNat)
    case atStart =>
      refine ⟨0, [], by omega, rfl, by simp, Lib.hid (by simp), Lib.hid (by rw [Tok.pAt_zero]; rfl), Lib.IsBuilderF.of (Lib.fresh_isBuilder 59 5 w), bel_alloc (Below.refl _ _) _⟩
    case round =>
      obtain ⟨a, acc, ha, rfl, hal, Hmay, Hacc, hI, hbel⟩ := hrel
      by_cases hlt : a < n
      · obtain ⟨x, hx⟩ : ∃ x, l[a]? = some x := ⟨l[a]'(by rw [Hn.out]; exact hlt), List.getElem?_eq_getElem _⟩
        have q1 : (a : Int) < (n : Int) := by omega
        have hxl : x ∈ l := List.mem_of_getElem? hx
        have hmc := fun w => may_any x (Hok.out x hxl) w
        obtain ⟨b, off, rfl, hbB, g1, g2⟩ := (hA.below (hbel.mono hB)).tk hx
        have Hx := Lib.hid hx
        clear hx
        by_cases hm : Tok.mayF x
        · have hml := Tok.may_len hm
          have Hmay2 : Hid (∀ y ∈ l.take (a + 1), Tok.mayF y) := Lib.hid (fun y hy => by
            rw [List.take_add_one, Hx.out, List.mem_append] at hy
            rcases hy with g | g
            · exact Hmay.out y g
            · simp at g; subst g; exact hm)
          have Hacc2 := Lib.hid (Tok.jn_step Hx.out Hacc.out)
          rw [decide_eq_true hm] at hmc
          have Hxl := Lib.hid hxl
          clear hm hxl
          obtain ⟨k, t⟩ := x
          simp only at hml hmc g1 g2 Hacc2
          go_wp2_with fail
          refine (hmc _).mono ?_
          rintro e w1 ⟨rfl, hb1⟩
          have hT1 := Block.call (Block.new wr 31 [.int .i64 k, .string (strOfNums t)]) hb1
          have hI1 := bld_call (hI.alloc _) hb1
          have hbel1 := bel_call (bel_alloc hbel (.cells #[.int .i64 k, .string (strOfNums t)] 31)) hb1
          have hzr := hbel.size
          have hrlt : w.heap.size < wr.heap.size := by
            rcases hI with h | h
            · exact h.lt
            · exact h.lt
          have hz1 := hbel1.size
          clear hmc
          go_upto_region 9 with fail
          go_cut [35] (fun b wx => b = .bool (decide (Tok.pAt l a = true ∧ k ≠ 4)) ∧ wx = w1)
          case first =>
            have d0 : w1.cell? ⟨wr.heap.size, 0, none⟩ = some (.int .i64 k) := hT1.cell 0
            rcases Nat.eq_zero_or_pos a with ha0 | ha0
            · subst ha0
              have hp : decide (Tok.pAt l 0 = true ∧ k ≠ 4) = false := decide_eq_false (by rw [Tok.pAt_zero]; simp)
              have Hp := Lib.hid hp
              clear hp
              go_wp2_with fail
              go_meet
              exact ⟨congrArg Value.bool Hp.out.symm, rfl⟩
            · have t0 : decide ((a : Int) > 0) = true := decide_eq_true (by omega)
              by_cases hk : k = 4
              · have tk : (k != 4) = false := by simp [hk]
                have hp : decide (Tok.pAt l a = true ∧ k ≠ 4) = false := decide_eq_false (by simp [hk])
                have Hp := Lib.hid hp
                clear hp hk
                go_wp2_with fail
                go_meet
                exact ⟨congrArg Value.bool Hp.out.symm, rfl⟩
              · have tk : (k != 4) = true := by simpa using hk
                obtain ⟨y, hy⟩ : ∃ y, l[a - 1]? = some y := ⟨l[a - 1]'(by rw [Hn.out]; omega), List.getElem?_eq_getElem _⟩
                obtain ⟨b2, off2, e2, -, c1, -⟩ := (hA.below (hbel1.mono hB)).tk hy
                simp only [Option.some.injEq, Addr.mk.injEq, and_true] at e2
                obtain ⟨rfl, rfl⟩ := e2
                obtain ⟨j, rfl⟩ : ∃ j, a = j + 1 := ⟨a - 1, by omega⟩
                rw [Nat.add_sub_cancel] at hy c1
                obtain ⟨ky, ty⟩ := y
                have hpy := Tok.pAt_succ hy
                simp only at hpy c1
                have q2 : (j : Int) < (n : Int) := by omega
                by_cases h5 : ky = 5
                · have tky : (ky != 5) = false := by simp [h5]
                  have hp : decide (Tok.pAt l (j + 1) = true ∧ k ≠ 4) = false := decide_eq_false (by rw [hpy]; simp [h5])
                  have Hp := Lib.hid hp
                  clear hp hk h5 hpy hy
                  go_wp2_with fail
                  go_meet
                  exact ⟨congrArg Value.bool Hp.out.symm, rfl⟩
                · have tky : (ky != 5) = true := by simpa using h5
                  have hp : decide (Tok.pAt l (j + 1) = true ∧ k ≠ 4) = true := decide_eq_true ⟨by rw [hpy]; simpa using h5, hk⟩
                  have Hp := Lib.hid hp
                  clear hp hk h5 hpy hy
                  go_wp2_with fail
                  go_meet
                  exact ⟨congrArg Value.bool Hp.out.symm, rfl⟩
          case rest =>
            obtain ⟨rfl, rfl⟩ := hcut
            have hsa : (strOfNums acc).size = acc.length := strOfNums_size _
            have hst : (strOfNums t).size = t.length := strOfNums_size _
            by_cases hp : Tok.pAt l a = true ∧ k ≠ 4
            · rw [if_pos hp] at Hacc2
              rw [decide_eq_true hp]
              have hwb := Tryd.Builder_WriteByte_k w.heap.size w.heap.size _ 32 wc hI1 (by rw [Lib.strCells_length, hsa]; omega) hz1
              clear hp
              go_wp2_with fail
              refine hwb.mono ?_
              rintro e w2 ⟨rfl, hI2, hb2, hk2⟩
              have hT2 := kept_block hk2 hT1 (by omega) (by decide)
              have hI2' : Lib.IsBuilderF 59 5 w.heap.size w.heap.size (Lib.strCells (strOfNums (acc ++ [32]))) w2 := by
                have e : Lib.strCells (strOfNums acc) ++ [Value.int .u8 32] = Lib.strCells (strOfNums (acc ++ [32])) := by rw [← str_app, ← strCells_app]; rfl
                rw [← e]; exact .inr hI2
              have hbel2 := hbel1.trans hb2
              have d1 : w2.cell? ⟨wr.heap.size, 1, none⟩ = some (.string (strOfNums t)) := hT2.cell 1
              have hsa2 : (strOfNums (acc ++ [32])).size = acc.length + 1 := by rw [strOfNums_size]; simp
              have hws := Tryd.Builder_WriteString_k w.heap.size w.heap.size _ (strOfNums t) w2 hI2' (by rw [Lib.strCells_length, hsa2, hst]; omega) hbel2.size
              clear hwb
              go_wp2_with fail
              refine hws.mono ?_
              rintro e w3 ⟨rfl, hI3, hb3, hk3⟩
              clear hws
              go_wp2_with fail
              go_roundw
              case rel =>
                refine ⟨a + 1, acc ++ 32 :: t, by omega, by go_num, by simp; omega, Hmay2, Hacc2, ?_, hbel2.trans hb3⟩
                have e : Lib.strCells (strOfNums (acc ++ [32])) ++ Lib.strCells (strOfNums t) = Lib.strCells (strOfNums (acc ++ 32 :: t)) := by rw [strCells_app, str_app]; simp
                rw [← e]; exact .inr hI3
              case measure => simp [RowKit.intOf]; omega
            · rw [if_neg hp] at Hacc2
              rw [decide_eq_false hp]
              have d1 : wc.cell? ⟨wr.heap.size, 1, none⟩ = some (.string (strOfNums t)) := hT1.cell 1
              have hws := Tryd.Builder_WriteString_k w.heap.size w.heap.size _ (strOfNums t) wc hI1 (by rw [Lib.strCells_length, hsa, hst]; omega) hz1
              clear hp
              go_wp2_with fail
              refine hws.mono ?_
              rintro e w3 ⟨rfl, hI3, hb3, hk3⟩
              clear hws
              go_wp2_with fail
              go_roundw
              case rel =>
                refine ⟨a + 1, acc ++ t, by omega, by go_num, by simp; omega, Hmay2, Hacc2, ?_, hbel1.trans hb3⟩
                have e : Lib.strCells (strOfNums acc) ++ Lib.strCells (strOfNums t) = Lib.strCells (strOfNums (acc ++ t)) := by rw [strCells_app, str_app]
                rw [← e]; exact .inr hI3
              case measure => simp [RowKit.intOf]; omega
        · have Hr := Lib.hid (Tok.textF_arg (by rw [Hn.out]; exact h40) hxl hm)
          rw [decide_eq_false hm] at hmc
          clear hm hxl
          obtain ⟨k, t⟩ := x
          simp only at hmc g1 g2
          go_wp2_with fail
          refine (hmc _).mono ?_
          rintro e w1 ⟨rfl, hb1⟩
          go_wp2_with fail
          go_ret2
          exact ⟨by rw [Hr.out]; rfl, bel_call (bel_alloc hbel _) hb1⟩
      · obtain rfl : a = n := by omega
        have hall : ∀ x ∈ l, Tok.mayF x := by
          have := Hmay.out
          rwa [List.take_of_length_le (by rw [Hn.out]; exact Nat.le_refl _)] at this
        have hT : acc = Tok.textL l := by
          have := Hacc.out
          rwa [List.drop_of_length_le (by rw [Hn.out]; exact Nat.le_refl _), Tok.jn, List.append_nil] at this
        have hlen := Tryd.Builder_Len_f w.heap.size w.heap.size _ wr hI
        have hsl : (Lib.strCells (strOfNums acc)).length = acc.length := by rw [Lib.strCells_length, strOfNums_size]
        rw [hsl] at hlen
        by_cases h200 : 200 < acc.length
        · have Hr := Lib.hid (Tok.textF_long (by rw [Hn.out]; exact h40) hall (by rw [← hT]; exact h200))
          clear hT hall
          go_wp2_with fail
          refine hlen.mono ?_
          rintro e w1 ⟨rfl, rfl⟩
          go_wp2_with fail
          go_ret2
          exact ⟨by rw [Hr.out]; rfl, hbel⟩
        · have Hr := Lib.hid (Tok.textF_fine (by rw [Hn.out]; exact h40) hall (by rw [← hT]; exact h200))
          have HT := Lib.hid hT
          have hstr := Tryd.Builder_String_any_k w.heap.size w.heap.size (strOfNums acc).data.toList wr hI hbel.size
          clear hT hall
          go_wp2_with fail
          refine hlen.mono ?_
          rintro e w1 ⟨rfl, rfl⟩
          go_wp2_with fail
          refine hstr.mono ?_
          rintro e w2 ⟨rfl, -, hb2, -⟩
          go_wp2_with fail
          go_ret2
          exact ⟨by rw [Hr.out, ← HT.out]; rfl, hbel.trans hb2⟩
end Go.Proofs.YtkdgomalhngagaaDoor
