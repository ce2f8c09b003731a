/- The walks of the program's and the document's may; of the kit's SameTokens and LongTokens. -/
import Derived.Test.YtkdgomalhngagaaDoorTkRef4
import Derived.Test.YtkdgomalhngagaaDoorTokPlain3
namespace Go.Proofs.YtkdgomalhngagaaDoor
open Go.RowKit Go.Lib

/-- Are all the texts' bytes bytes? -/
def OkT (t : Tok.Tk) : Prop := (∀ x ∈ t.2, 0 ≤ x ∧ x ≤ 255) ∧ t.2.length ≤ 1000000
def Okl (l : List Tok.Tk) : Prop := ∀ t ∈ l, OkT t
set_option maxRecDepth 100000 in
set_option maxHeartbeats 4000000 in
theorem same_true {w : World} {A A' : Option Addr} {n c c' B B' : Nat} {l : List Tok.Tk} (h1 : Shows w B 2 A n (TC l)) (h2 : Shows w B' 2 A' n (TC l)) (_ : n ≤ 1000000) :
    Calls Tryd.prog 13 #[.slice A n c, .slice A' n c'] w fun e w' => e = .returned (.bool true) ∧ ∃ k, w' = w.drewN k := by
  have Hn := Lib.hid h1.numT
  go_enter Tryd.func13, Tryd.ntmps13
  go_wp2_with fail
  go_loopw [5] (fun i wr => ∃ a : Nat, a ≤ n ∧ i = .int .i64 a ∧ ∃ m, wr = w.drewN m) (fun i _ => n - (RowKit.intOf i).toNat)
  case atStart => exact ⟨0, by omega, rfl, 0, rfl⟩
  case round =>
    obtain ⟨a, ha, rfl, m, hm⟩ := hrel
    by_cases hlt : a < n
    · obtain ⟨x, hx⟩ : ∃ x, l[a]? = some x := ⟨l[a]'(by rw [Hn.out]; exact hlt), List.getElem?_eq_getElem _⟩
      obtain ⟨b, off, rfl, -, g1, g2⟩ := h1.tk hx
      obtain ⟨b', off', rfl, -, g3, g4⟩ := h2.tk hx
      have q1 : (a : Int) < (n : Int) := by omega
      obtain ⟨k, t⟩ := x
      have g1' : wr.cell? ⟨b, off + a * 2, none⟩ = some (.int .i64 k) := by subst hm; exact g1
      have g2' : wr.cell? ⟨b, off + a * 2 + 1, none⟩ = some (.string (strOfNums t)) := by subst hm; exact g2
      have g3' : wr.cell? ⟨b', off' + a * 2, none⟩ = some (.int .i64 k) := by subst hm; exact g3
      have g4' : wr.cell? ⟨b', off' + a * 2 + 1, none⟩ = some (.string (strOfNums t)) := by subst hm; exact g4
      have Hm := Lib.hid hm
      clear hm hx g1 g2 g3 g4
      go_wp2_with fail
      go_quiet (fail)
      go_wp2_with fail
      go_roundw
      case rel =>
        have e := Hm.out
        subst e
        exact ⟨a + 1, by omega, by go_num, dr1 _ _ _⟩
      case measure => simp [RowKit.intOf]; omega
    · obtain rfl : a = n := by omega
      have Hm := Lib.hid hm
      clear hm
      go_wp2_with fail
      go_ret
      exact ⟨rfl, m, Hm.out⟩
def LongT (l : List Tok.Tk) : Prop := (∃ x ∈ l, 300 < x.2.length) ∨ 60 < l.length
instance (l : List Tok.Tk) : Decidable (LongT l) := inferInstanceAs (Decidable (_ ∨ _))
set_option maxRecDepth 100000 in
set_option maxHeartbeats 4000000 in
theorem long_any {w : World} {A : Option Addr} {n c B : Nat} {l : List Tok.Tk} (h1 : Shows w B 2 A n (TC l)) (_ : n ≤ 9223372036854775807) (hs : ∀ x ∈ l, x.2.length ≤ 9223372036854775807) :
    Calls Tryd.prog 17 #[.slice A n c] w fun e w' => e = .returned (.bool (decide (LongT l))) ∧ w = w' := by
  have Hn := Lib.hid h1.numT
  go_enter Tryd.func17, Tryd.ntmps17
  go_wp2_with fail
  go_loopw [3] (fun i wr => ∃ a : Nat, a ≤ n ∧ i = .int .i64 a ∧ Hid (∀ x ∈ l.take a, ¬ 300 < x.2.length) ∧ wr = w) (fun i _ => n - (RowKit.intOf i).toNat)
  case atStart => exact ⟨0, by omega, rfl, Lib.hid (by simp), rfl⟩
  case round =>
    obtain ⟨a, ha, rfl, Hd, rfl⟩ := hrel
    by_cases hlt : a < n
    · obtain ⟨x, hx⟩ : ∃ x, l[a]? = some x := ⟨l[a]'(by rw [Hn.out]; exact hlt), List.getElem?_eq_getElem _⟩
      obtain ⟨b, off, rfl, -, g1, g2⟩ := h1.tk hx
      have q1 : (a : Int) < (n : Int) := by omega
      have hz : (strOfNums x.2).size = x.2.length := strOfNums_size _
      have hm : x ∈ l := List.mem_of_getElem? hx
      have hsx := hs x hm
      by_cases h3 : 300 < x.2.length
      · have hL : LongT l := .inl ⟨x, hm, h3⟩
        have HL := Lib.hid hL
        have t3 : decide ((x.2.length : Int) > 300) = true := decide_eq_true (by omega)
        clear hx hm hL
        go_wp2_with fail
        go_ret
        exact ⟨by rw [decide_eq_true HL.out]; rfl, by trivial⟩
      · have t3 : decide ((x.2.length : Int) > 300) = false := decide_eq_false (by omega)
        have Hn2 : Hid (∀ x ∈ l.take (a + 1), ¬ 300 < x.2.length) := Lib.hid (fun y hy => by
          rw [List.take_add_one, hx, List.mem_append] at hy
          rcases hy with g | g
          · exact Hd.out y g
          · simp at g; subst g; exact h3)
        clear hx hm
        go_wp2_with fail
        go_roundw
        case rel => exact ⟨a + 1, by omega, by go_num, Hn2, by trivial⟩
        case measure => simp [RowKit.intOf]; omega
    · obtain rfl : a = n := by omega
      have hall : ∀ x ∈ l, ¬ 300 < x.2.length := by
        have := Hd.out
        rwa [List.take_of_length_le (by rw [Hn.out]; exact Nat.le_refl _)] at this
      have e : decide (LongT l) = decide ((a : Int) > 60) := by
        rw [Bool.eq_iff_iff]; simp only [decide_eq_true_eq]
        have := Hn.out
        constructor
        · rintro (⟨x, hx, h3⟩ | h)
          · exact absurd h3 (hall x hx)
          · omega
        · intro h; exact .inr (by omega)
      have He := Lib.hid e
      clear hall e
      go_wp2_with fail
      go_ret
      exact ⟨by rw [He.out]; rfl, by trivial⟩
theorem str_neq {a b : ByteArray} (h : a ≠ b) : (a == b) = false := by
  cases a with
  | mk x =>
    cases b with
    | mk y =>
      have : x ≠ y := fun e => h (by rw [e])
      show (x == y) = false
      simpa using this
theorem tok_byte {a : List Int} (h : ∀ x ∈ a, 0 ≤ x ∧ x ≤ 255) : ∀ x ∈ (Tok.tok a).2, 0 ≤ x ∧ x ≤ 255 := map_up_byte h
theorem go_byte (l : List Int) : ∀ a : List Int, (∀ x ∈ l, 0 ≤ x ∧ x ≤ 255) → (∀ x ∈ a, 0 ≤ x ∧ x ≤ 255) → ∀ t ∈ Tok.go a l, ∀ x ∈ t.2, 0 ≤ x ∧ x ≤ 255 := by
  induction l with
  | nil =>
    intro a _ ha t ht
    unfold Tok.go at ht
    split at ht
    · simp at ht
    · simp at ht; subst ht; exact tok_byte ha
  | cons b r ih =>
    intro a hl ha t ht
    have hb := hl b (by simp)
    have hr : ∀ x ∈ r, 0 ≤ x ∧ x ≤ 255 := fun x hx => hl x (by simp [hx])
    unfold Tok.go at ht
    split at ht
    · exact ih _ hr (by intro x hx; rcases List.mem_append.1 hx with g | g; exact ha x g; simp at g; subst g; exact hb) t ht
    · rcases List.mem_append.1 ht with g | g
      · split at g
        · simp at g
        · simp at g; subst g; exact tok_byte ha
      · split at g
        · exact ih _ hr (by intro x hx; simp at hx; subst hx; exact hb) t g
        · split at g
          · rcases List.mem_cons.1 g with g | g
            · subst g; intro x hx; simp at hx; omega
            · exact ih _ hr (by simp) t g
          · split at g
            · rcases List.mem_cons.1 g with g | g
              · subst g; intro x hx; simp at hx; omega
              · exact ih _ hr (by simp) t g
            · exact ih _ hr (by simp) t g
theorem tokF_bytes (l : List Int) (h : ∀ x ∈ l, 0 ≤ x ∧ x ≤ 255) : ∀ t ∈ (Tok.tokF l).1, ∀ x ∈ t.2, 0 ≤ x ∧ x ≤ 255 := by
  unfold Tok.tokF
  split
  · intro t ht; simp at ht
  · split
    · intro t ht; simp at ht
    · split
      · intro t ht; simp at ht
      · exact go_byte l [] h (by simp)
theorem tokF_p (l : List Int) : (Tok.tokF l).2.1 = 0 → (Tok.tokF l).2.2 = 0 := by
  unfold Tok.tokF
  split
  · intro h; simp at h
  · split
    · intro h; simp at h
    · split
      · intro h; simp at h
      · intro _; rfl
set_option maxRecDepth 100000 in
set_option maxHeartbeats 4000000 in
theorem may_any (t : Tok.Tk) (ht : OkT t) (w : World) : Calls Tryd.prog 29 #[.agg #[.int .i64 t.1, .string (strOfNums t.2)]] w fun e w' => e = .returned (.bool (decide (Tok.mayF t))) ∧ Below w.heap.size w w' := by
  obtain ⟨k, l⟩ := t
  obtain ⟨hb, hlen⟩ := ht
  have hsz : (strOfNums l).size = l.length := strOfNums_size _
  have htk := fun w => tokens_any (strOfNums l) (by rw [hsz]; exact hlen) w
  rw [nums_str l hb] at htk
  have Hb := Lib.hid hb
  obtain ⟨⟨r, x, p⟩, hr⟩ : ∃ r, Tok.tokF l = r := ⟨_, rfl⟩
  rw [hr] at htk
  have Hbytes := Lib.hid (tokF_bytes l hb)
  rw [hr] at Hbytes
  have hmay : Tok.mayF (k, l) ↔ (r = [(k, l)] ∧ x = 0 ∧ p = 0) := by unfold Tok.mayF; rw [hr]; simp
  have hp : x = 0 → p = 0 := fun h => by have := tokF_p l; rw [hr] at this; exact this h
  have Hp := Lib.hid hp
  have Hmay := Lib.hid hmay
  clear hmay hr hb hp
  go_enter Tryd.func29, Tryd.ntmps29
  go_wp2_with fail
  refine (htk _).mono ?_
  rintro e w1 ⟨A, c, rfl, hown, hb1⟩
  have hT := Block.call (Block.new w 31 [.int .i64 k, .string (strOfNums l)]) hb1
  have hbel := bel_call (bel_alloc (Below.refl w.heap.size w) (.cells #[.int .i64 k, .string (strOfNums l)] 31)) hb1
  have hsh := shows_row hown
  simp only at hsh hown
  have hlr := hsh.numT
  go_upto_region 2 with fail
  obtain ⟨w2, hw2⟩ : ∃ w2, w1.alloc (.cells #[.int .i64 x, .int .i64 p] 25) = w2 := ⟨_, rfl⟩
  have hT2 : Block w2 w.heap.size 31 [.int .i64 k, .string (strOfNums l)] := hw2 ▸ hT.alloc _
  have hF2 : Block w2 w1.heap.size 25 [.int .i64 x, .int .i64 p] := hw2 ▸ Block.new w1 _ _
  have hsh2 : Shows w2 w1.heap.size 2 A r.length (TC r) := hw2 ▸ hsh.alloc (Nat.le_refl _) _
  have hbel2 : Below w.heap.size w w2 := hw2 ▸ bel_alloc hbel _
  rw [hw2]
  clear hw2 hsh hown hlr
  have d0 : w2.cell? ⟨w1.heap.size, 0, none⟩ = some (.int .i64 x) := hF2.cell 0
  have e0 : w2.cell? ⟨w.heap.size, 0, none⟩ = some (.int .i64 k) := hT2.cell 0
  have e1 : w2.cell? ⟨w.heap.size, 1, none⟩ = some (.string (strOfNums l)) := hT2.cell 1
  by_cases hx : x = 0
  · subst hx
    by_cases h1 : r.length = 1
    · obtain ⟨u, rfl⟩ : ∃ u, r = [u] := List.length_eq_one_iff.1 h1
      obtain ⟨b, off, rfl, -, g1, g2⟩ := hsh2.tk (i := 0) (x := u) rfl
      obtain ⟨k', l'⟩ := u
      have hbl := Hbytes.out (k', l') (by simp)
      simp only [List.length_cons, List.length_nil, Nat.zero_mul, Nat.add_zero, Nat.zero_add] at g1 g2 ⊢
      by_cases hk : k' = k
      · subst hk
        by_cases hl : l' = l
        · subst hl
          have hm : Tok.mayF (k', l') := Hmay.out.2 ⟨rfl, rfl, Hp.out rfl⟩
          have Hm := Lib.hid hm
          clear hm
          go_wp2_with fail
          go_quiet (fail)
          go_wp2_with fail
          go_ret
          exact ⟨by rw [decide_eq_true Hm.out]; rfl, below_drewN hbel2 _⟩
        · have hm : ¬ Tok.mayF (k', l) := fun g => hl (by have := (Hmay.out.1 g).1; simpa using this)
          have tne : ((strOfNums l').toList == (strOfNums l).toList) = false := (beq_toListBytes _ _).symm.trans (str_neq (fun e => hl (str_inj hbl Hb.out e)))
          have Hm := Lib.hid hm
          clear hm hl hbl
          go_wp2_with fail
          go_quiet (fail)
          go_wp2_with fail
          go_ret
          exact ⟨by rw [decide_eq_false Hm.out]; rfl, below_drewN hbel2 _⟩
      · have hm : ¬ Tok.mayF (k, l) := fun g => hk (by have := (Hmay.out.1 g).1; simp at this; exact this.1)
        have tk : (k' == k) = false := by simpa using hk
        have Hm := Lib.hid hm
        clear hm hk hbl
        go_wp2_with fail
        go_quiet (fail)
        go_wp2_with fail
        go_ret
        exact ⟨by rw [decide_eq_false Hm.out]; rfl, below_drewN hbel2 _⟩
    · have hm : ¬ Tok.mayF (k, l) := fun g => h1 (by rw [(Hmay.out.1 g).1]; rfl)
      have t1 : ((r.length : Int) == 1) = false := by simp; omega
      have Hm := Lib.hid hm
      clear hm
      go_wp2_with fail
      go_quiet (fail)
      go_wp2_with fail
      go_ret
      exact ⟨by rw [decide_eq_false Hm.out]; rfl, below_drewN hbel2 _⟩
  · have hm : ¬ Tok.mayF (k, l) := fun g => hx (Hmay.out.1 g).2.1
    have tx : (x == 0) = false := by simpa using hx
    have Hm := Lib.hid hm
    clear hm hx
    go_wp2_with fail
    go_quiet (fail)
    go_wp2_with fail
    go_ret
    exact ⟨by rw [decide_eq_false Hm.out]; rfl, below_drewN hbel2 _⟩
set_option maxRecDepth 100000 in
set_option maxHeartbeats 4000000 in
theorem rmay_any (t : Tok.Tk) (ht : OkT t) (w : World) : Calls Tryd.prog 34 #[.agg #[.int .i64 t.1, .string (strOfNums t.2)]] w fun e w' => e = .returned (.bool (decide (Tok.mayF t))) ∧ Below w.heap.size w w' := by
  obtain ⟨k, l⟩ := t
  obtain ⟨hb, hlen⟩ := ht
  have hsz : (strOfNums l).size = l.length := strOfNums_size _
  have htk := fun w => rtokens_any (strOfNums l) (by rw [hsz]; exact hlen) w
  rw [nums_str l hb] at htk
  have Hb := Lib.hid hb
  obtain ⟨⟨r, x, p⟩, hr⟩ : ∃ r, Tok.tokF l = r := ⟨_, rfl⟩
  rw [hr] at htk
  have Hbytes := Lib.hid (tokF_bytes l hb)
  rw [hr] at Hbytes
  have hmay : Tok.mayF (k, l) ↔ (r = [(k, l)] ∧ x = 0 ∧ p = 0) := by unfold Tok.mayF; rw [hr]; simp
  have hp : x = 0 → p = 0 := fun h => by have := tokF_p l; rw [hr] at this; exact this h
  have Hp := Lib.hid hp
  have Hmay := Lib.hid hmay
  clear hmay hr hb hp
  go_enter Tryd.func34, Tryd.ntmps34
  go_wp2_with fail
  refine (htk _).mono ?_
  rintro e w1 ⟨A, c, rfl, hown, hb1⟩
  have hT := Block.call (Block.new w 31 [.int .i64 k, .string (strOfNums l)]) hb1
  have hbel := bel_call (bel_alloc (Below.refl w.heap.size w) (.cells #[.int .i64 k, .string (strOfNums l)] 31)) hb1
  have hsh := shows_row hown
  simp only at hsh hown
  have hlr := hsh.numT
  go_upto_region 2 with fail
  obtain ⟨w2, hw2⟩ : ∃ w2, w1.alloc (.cells #[.int .i64 x, .int .i64 p] 25) = w2 := ⟨_, rfl⟩
  have hT2 : Block w2 w.heap.size 31 [.int .i64 k, .string (strOfNums l)] := hw2 ▸ hT.alloc _
  have hF2 : Block w2 w1.heap.size 25 [.int .i64 x, .int .i64 p] := hw2 ▸ Block.new w1 _ _
  have hsh2 : Shows w2 w1.heap.size 2 A r.length (TC r) := hw2 ▸ hsh.alloc (Nat.le_refl _) _
  have hbel2 : Below w.heap.size w w2 := hw2 ▸ bel_alloc hbel _
  rw [hw2]
  clear hw2 hsh hown hlr
  have d0 : w2.cell? ⟨w1.heap.size, 0, none⟩ = some (.int .i64 x) := hF2.cell 0
  have e0 : w2.cell? ⟨w.heap.size, 0, none⟩ = some (.int .i64 k) := hT2.cell 0
  have e1 : w2.cell? ⟨w.heap.size, 1, none⟩ = some (.string (strOfNums l)) := hT2.cell 1
  by_cases hx : x = 0
  · subst hx
    by_cases h1 : r.length = 1
    · obtain ⟨u, rfl⟩ : ∃ u, r = [u] := List.length_eq_one_iff.1 h1
      obtain ⟨b, off, rfl, -, g1, g2⟩ := hsh2.tk (i := 0) (x := u) rfl
      obtain ⟨k', l'⟩ := u
      have hbl := Hbytes.out (k', l') (by simp)
      simp only [List.length_cons, List.length_nil, Nat.zero_mul, Nat.add_zero, Nat.zero_add] at g1 g2 ⊢
      by_cases hk : k' = k
      · subst hk
        by_cases hl : l' = l
        · subst hl
          have hm : Tok.mayF (k', l') := Hmay.out.2 ⟨rfl, rfl, Hp.out rfl⟩
          have Hm := Lib.hid hm
          clear hm
          go_wp2_with fail
          go_quiet (fail)
          go_wp2_with fail
          go_ret
          exact ⟨by rw [decide_eq_true Hm.out]; rfl, below_drewN hbel2 _⟩
        · have hm : ¬ Tok.mayF (k', l) := fun g => hl (by have := (Hmay.out.1 g).1; simpa using this)
          have tne : ((strOfNums l').toList == (strOfNums l).toList) = false := (beq_toListBytes _ _).symm.trans (str_neq (fun e => hl (str_inj hbl Hb.out e)))
          have Hm := Lib.hid hm
          clear hm hl hbl
          go_wp2_with fail
          go_quiet (fail)
          go_wp2_with fail
          go_ret
          exact ⟨by rw [decide_eq_false Hm.out]; rfl, below_drewN hbel2 _⟩
      · have hm : ¬ Tok.mayF (k, l) := fun g => hk (by have := (Hmay.out.1 g).1; simp at this; exact this.1)
        have tk : (k' == k) = false := by simpa using hk
        have Hm := Lib.hid hm
        clear hm hk hbl
        go_wp2_with fail
        go_quiet (fail)
        go_wp2_with fail
        go_ret
        exact ⟨by rw [decide_eq_false Hm.out]; rfl, below_drewN hbel2 _⟩
    · have hm : ¬ Tok.mayF (k, l) := fun g => h1 (by rw [(Hmay.out.1 g).1]; rfl)
      have t1 : ((r.length : Int) == 1) = false := by simp; omega
      have Hm := Lib.hid hm
      clear hm
      go_wp2_with fail
      go_quiet (fail)
      go_wp2_with fail
      go_ret
      exact ⟨by rw [decide_eq_false Hm.out]; rfl, below_drewN hbel2 _⟩
  · have hm : ¬ Tok.mayF (k, l) := fun g => hx (Hmay.out.1 g).2.1
    have tx : (x == 0) = false := by simpa using hx
    have Hm := Lib.hid hm
    clear hm hx
    go_wp2_with fail
    go_quiet (fail)
    go_wp2_with fail
    go_ret
    exact ⟨by rw [decide_eq_false Hm.out]; rfl, below_drewN hbel2 _⟩
end Go.Proofs.YtkdgomalhngagaaDoor
