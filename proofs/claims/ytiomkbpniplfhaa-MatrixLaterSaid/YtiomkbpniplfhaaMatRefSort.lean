/- The walk of the document's 'Sort'. -/
import Derived.Test.YtiomkbpniplfhaaMatApp
import Derived.Deep.CutBlock
namespace Go.Proofs.Ytiomkbpniplfhaa
open Go.RowKit

/-- What stands behind a rule that is put at place k. -/
def Mat.behind (s : List S6) (k : Nat) (x : S6) : List S6 := match s[k]? with | some y => if Mat.Lt x y then s.drop k else s.drop (k + 1) | none => []
theorem Mat.put_at : ∀ (s : List S6) (x : S6) (k : Nat), (∀ t y, s[t]? = some y → t < k → Mat.Lt y x) → (∀ y, s[k]? = some y → ¬ Mat.Lt y x) → k ≤ s.length → Mat.put s x = s.take k ++ [x] ++ Mat.behind s k x := by
  intro s
  induction s with
  | nil => intro x k _ _ hk; simp [Mat.put, Mat.behind]
  | cons z t ih =>
    intro x k h1 h2 hk
    rcases k with _ | k
    · have := h2 z rfl
      rw [Mat.put, if_neg this]
      unfold Mat.behind
      simp only [List.getElem?_cons_zero]
      by_cases h : Mat.Lt x z
      · rw [if_pos h, if_pos h]; rfl
      · rw [if_neg h, if_neg h]; rfl
    · rw [Mat.put, if_pos (h1 0 z rfl (by omega)), ih x k (fun i y hi hik => h1 (i + 1) y (by simpa using hi) (by omega)) (fun y hy => h2 y (by simpa using hy)) (by simpa using hk)]
      unfold Mat.behind
      simp only [List.getElem?_cons_succ, List.take_succ_cons, List.drop_succ_cons, List.cons_append]
theorem Mat.behind_len {s : List S6} {k : Nat} {x : S6} : (Mat.behind s k x).length ≤ s.length - k := by
  unfold Mat.behind
  split
  · split <;> (rw [List.length_drop]; omega)
  · simp
theorem Mat.put_len {s : List S6} {x : S6} : (Mat.put s x).length ≤ s.length + 1 := by
  induction s with
  | nil => simp [Mat.put]
  | cons z t ih =>
    rw [Mat.put]
    split
    · simp; omega
    · split <;> simp
set_option maxRecDepth 100000 in
set_option maxHeartbeats 16000000 in
theorem rsort_any (A : Option Addr) (n c : Nat) (l : List S6) (B : Nat) (w : World) (ha : Shows w B 6 A n (RC l)) (hB : B ≤ w.heap.size) (hn : n ≤ 200) :
    Calls Try.prog 24 #[.slice A n c] w (Fresh 28 6 (Mat.srt l).length (RC (Mat.srt l)) w) := by
  have Hl := Lib.hid ha.num6
  go_enter Try.func24, Try.ntmps24
  go_wp2_with fail
  go_loopw [3, 4] (fun s3 s4 wr => ∃ (j m cj : Nat) (Aj : Option Addr), s3 = .slice Aj m cj ∧ s4 = .int .i64 j ∧ j ≤ n ∧ m ≤ j ∧ Hid ((Mat.srt (l.take j)).length = m) ∧ Aside (wr.ownsRow w.heap.size 28 6 (.slice Aj m cj) m (RC (Mat.srt (l.take j)))) ∧ Below w.heap.size w wr) (fun _ j _ => n - (intOf j).toNat)
  case atStart => exact ⟨0, 0, 0, none, rfl, rfl, by omega, by omega, rfl, World.ownsRow_nil _ _ _ _, Below.refl _ _⟩
  case round =>
    obtain ⟨j, m, cj, Aj, rfl, rfl, hjn, hmj, hm, hown, hbel⟩ := hrel
    obtain ⟨w1, rfl⟩ : ∃ w1, w1 = wr := ⟨_, rfl⟩
    by_cases hlt : j < n
    · obtain ⟨x, hx⟩ : ∃ x, l[j]? = some x := ⟨l[j]'(by rw [Hl.out]; exact hlt), List.getElem?_eq_getElem _⟩
      have hnext : Hid (Mat.srt (l.take (j + 1)) = Mat.put (Mat.srt (l.take j)) x) := by
        show _ = _
        rw [List.take_add_one, hx, ← Mat.srt_snoc]; rfl
      obtain ⟨b, off, rfl, hb, g⟩ := ha.six hx
      have g := Cells6.below g hbel (by omega)
      have hbw : b < w.heap.size := by omega
      generalize Mat.srt (l.take j) = s at hm hown hnext
      have hz := hbel.size
      have q0 : (j : Int) < (n : Int) := by omega
      have qj : (0 : Int) ≤ (j : Int) := by omega
      have hsh : Aside (Shows w1 w1.heap.size 6 Aj m (RC s)) := Shows.of_own hown.out
      have hmc : m ≤ cj := by
        obtain ⟨_, _, hv, h0, _⟩ := own_form hown.out
        injection hv with _ _ h3
        omega
      clear hx
      go_upto_block 2 with (fail)
      go_cut [5] (fun s5 wx => ∃ k : Nat, s5 = .int .i64 k ∧ k ≤ m ∧ Hid (∀ t y, s[t]? = some y → t < k → Mat.Lt y x) ∧ Hid (∀ y, s[k]? = some y → ¬ Mat.Lt y x) ∧ Below w1.heap.size w1 wx)
      case first =>
        go_wp2_with fail
        go_loopw [5] (fun s5 wk => ∃ k : Nat, s5 = .int .i64 k ∧ k ≤ m ∧ Hid (∀ t y, s[t]? = some y → t < k → Mat.Lt y x) ∧ Below w1.heap.size w1 wk) (fun k _ => m - (intOf k).toNat)
        case atStart => exact ⟨0, rfl, by omega, fun t y _ h => by omega, Below.refl _ _⟩
        case round =>
          obtain ⟨k, rfl, hkm, hlo, hbk⟩ := hrel
          by_cases hkl : k < m
          · obtain ⟨y, hy⟩ : ∃ y, s[k]? = some y := ⟨s[k]'(by rw [hm.out]; exact hkl), List.getElem?_eq_getElem _⟩
            obtain ⟨b2, off2, rfl, hb2, g2⟩ := hsh.out.six hy
            have g2 := g2.below hbk hb2
            have g1 := g.below hbk (by omega)
            have Hy := Lib.hid hy
            obtain ⟨c1, c2, c3, c4, c5, c6⟩ := g1
            obtain ⟨e1, e2, e3, e4, e5, e6⟩ := g2
            have g1 : Cells6 wr b (off + j * 6) x := ⟨c1, c2, c3, c4, c5, c6⟩
            have g2 : Cells6 wr b2 (off2 + k * 6) y := ⟨e1, e2, e3, e4, e5, e6⟩
            have hcall := fun w => ahead_any y x w
            have q2 : (0 : Int) ≤ (k : Int) := by omega
            have q3 : (k : Int) < (m : Int) := by omega
            have d3 : decide ((k : Int) < (m : Int)) = true := decide_eq_true q3
            clear hy
            by_cases hl : Mat.Lt y x
            · rw [decide_eq_true hl] at hcall
              have Hl2 := Lib.hid hl
              clear hl
              go_wp2_with fail
              go_region_held3 (fun w' => w'.cell? ⟨b, off + j * 6, none⟩ = some (.int .i64 x.a) ∧ w'.cell? ⟨b, off + j * 6 + 1, none⟩ = some (.int .i64 x.b) ∧ w'.cell? ⟨b, off + j * 6 + 2, none⟩ = some (.int .i64 x.c) ∧ w'.cell? ⟨b, off + j * 6 + 3, none⟩ = some (.int .i64 x.d) ∧ w'.cell? ⟨b, off + j * 6 + 4, none⟩ = some (.int .i64 x.e) ∧ w'.cell? ⟨b, off + j * 6 + 5, none⟩ = some (.int .i64 x.f) ∧ w'.cell? ⟨b2, off2 + k * 6, none⟩ = some (.int .i64 y.a) ∧ w'.cell? ⟨b2, off2 + k * 6 + 1, none⟩ = some (.int .i64 y.b) ∧ w'.cell? ⟨b2, off2 + k * 6 + 2, none⟩ = some (.int .i64 y.c) ∧ w'.cell? ⟨b2, off2 + k * 6 + 3, none⟩ = some (.int .i64 y.d) ∧ w'.cell? ⟨b2, off2 + k * 6 + 4, none⟩ = some (.int .i64 y.e) ∧ w'.cell? ⟨b2, off2 + k * 6 + 5, none⟩ = some (.int .i64 y.f)) (go_keep) (first
                | (go_at_call 29; refine (hcall _).mono ?_; rintro e w2 ⟨rfl, hb3⟩; have kx := Cells6.call (w := wr.drew) g1 hb3; obtain ⟨z1, z2, z3, z4, z5, z6⟩ := kx; have ky := Cells6.call (w := wr.drew) g2 hb3; obtain ⟨y1, y2, y3, y4, y5, y6⟩ := ky))
              go_wp2_with fail
              go_roundw
              case rel => exact ⟨k + 1, by go_num, by omega, fun t z hz ht => by
                rcases Nat.lt_or_ge t k with h | h
                · exact hlo.out t z hz h
                · obtain rfl : t = k := by omega
                  rw [Hy.out] at hz; injection hz with hz; subst hz; exact Hl2.out, hbk.drew.trans (hb3.mono (by have := hbk.size; exact this))⟩
              case measure => simp [intOf]; omega
            · rw [decide_eq_false hl] at hcall
              have Hl2 := Lib.hid hl
              clear hl
              go_wp2_with fail
              go_region_held3 (fun w' => w'.cell? ⟨b, off + j * 6, none⟩ = some (.int .i64 x.a) ∧ w'.cell? ⟨b, off + j * 6 + 1, none⟩ = some (.int .i64 x.b) ∧ w'.cell? ⟨b, off + j * 6 + 2, none⟩ = some (.int .i64 x.c) ∧ w'.cell? ⟨b, off + j * 6 + 3, none⟩ = some (.int .i64 x.d) ∧ w'.cell? ⟨b, off + j * 6 + 4, none⟩ = some (.int .i64 x.e) ∧ w'.cell? ⟨b, off + j * 6 + 5, none⟩ = some (.int .i64 x.f) ∧ w'.cell? ⟨b2, off2 + k * 6, none⟩ = some (.int .i64 y.a) ∧ w'.cell? ⟨b2, off2 + k * 6 + 1, none⟩ = some (.int .i64 y.b) ∧ w'.cell? ⟨b2, off2 + k * 6 + 2, none⟩ = some (.int .i64 y.c) ∧ w'.cell? ⟨b2, off2 + k * 6 + 3, none⟩ = some (.int .i64 y.d) ∧ w'.cell? ⟨b2, off2 + k * 6 + 4, none⟩ = some (.int .i64 y.e) ∧ w'.cell? ⟨b2, off2 + k * 6 + 5, none⟩ = some (.int .i64 y.f)) (go_keep) (first
                | (go_at_call 29; refine (hcall _).mono ?_; rintro e w2 ⟨rfl, hb3⟩; have kx := Cells6.call (w := wr.drew) g1 hb3; obtain ⟨z1, z2, z3, z4, z5, z6⟩ := kx; have ky := Cells6.call (w := wr.drew) g2 hb3; obtain ⟨y1, y2, y3, y4, y5, y6⟩ := ky))
              go_wp2_with fail
              go_meet
              case rel => exact ⟨k, rfl, hkm, hlo, fun z hz => by
                rw [Hy.out] at hz; injection hz with hz; subst hz; exact Hl2.out, hbk.drew.trans (hb3.mono (by have := hbk.size; exact this))⟩
          · obtain rfl : k = m := by omega
            have d3 : decide ((k : Int) < (k : Int)) = false := decide_eq_false (by omega)
            go_wp2_with fail
            go_quiet (fail)
            go_wp2_with fail
            go_meet
            case rel => exact ⟨k, rfl, Nat.le_refl _, hlo, (fun z hz => by rw [List.getElem?_eq_none (by rw [hm.out]; exact Nat.le_refl _)] at hz; cases hz), bel_drewN hbk _⟩
      case rest =>
        obtain ⟨k, rfl, hkm, hlo, hat, hbc⟩ := hcut
        have HP : Hid (Mat.put s x = s.take k ++ [x] ++ Mat.behind s k x) := Mat.put_at s x k hlo.out hat.out (by rw [hm.out]; exact hkm)
        obtain ⟨A2, hcutF, hsh2⟩ := cut_from (P := Try.prog) 6 Try.underlying22 size_rule Aj m cj k hkm hmc
        have hsF : Aside (Shows w1 w1.heap.size 6 A2 (m - k) (RC (s.drop k))) := by
          have := hsh2 _ _ _ hsh.out
          rw [rc_drop] at this; exact this
        have hcutT := fun w => cut_to (P := Try.prog) 6 Try.underlying22 size_rule Aj m cj k (by omega) w
        clear hsh2 hlo
        have hkcj : k ≤ cj := by omega
        have g1 := g.below hbc (by omega)
        go_upto_region 9 with (fail)
        obtain ⟨A3, hcut3, hsh3⟩ : ∃ A3, (1 ≤ m - k → ∀ w, (Instr.slice 22 (.slice A2 (m - k) (cj - k)) (some (.int .i64 1)) none none).run Try.prog w = .ok (.slice A3 (m - k - 1) (cj - k - 1)) w) ∧ (1 ≤ m - k → Shows w1 w1.heap.size 6 A3 (m - k - 1) (RC (s.drop (k + 1)))) := by
          by_cases h1 : 1 ≤ m - k
          · obtain ⟨A3, h2, h3⟩ := cut_from (P := Try.prog) 6 Try.underlying22 size_rule A2 (m - k) (cj - k) 1 h1 (by omega)
            refine ⟨A3, fun _ => h2, fun _ => ?_⟩
            have := h3 _ _ _ hsF.out
            rw [rc_drop, List.drop_drop] at this; exact this
          · exact ⟨none, fun h => absurd h h1, fun h => absurd h h1⟩
        go_cut [46] (fun t wx => ∃ bv : Bool, t = .bool bv ∧ Hid ((bv = true ∧ 1 ≤ m - k ∧ Mat.behind s k x = s.drop (k + 1)) ∨ (bv = false ∧ Mat.behind s k x = s.drop k)) ∧ Below w1.heap.size w1 wx)
        case first =>
          by_cases hkl : k < m
          · obtain ⟨y, hy⟩ : ∃ y, s[k]? = some y := ⟨s[k]'(by rw [hm.out]; exact hkl), List.getElem?_eq_getElem _⟩
            obtain ⟨b2, off2, rfl, hb2, g2⟩ := hsF.out.six (show (s.drop k)[0]? = some y by rw [List.getElem?_drop, Nat.add_zero, hy])
            rw [Nat.zero_mul, Nat.add_zero] at g2
            have g2 := g2.below hbc hb2
            obtain ⟨c1, c2, c3, c4, c5, c6⟩ := g1
            obtain ⟨e1, e2, e3, e4, e5, e6⟩ := g2
            have g1 : Cells6 wc b (off + j * 6) x := ⟨c1, c2, c3, c4, c5, c6⟩
            have g2 : Cells6 wc b2 off2 y := ⟨e1, e2, e3, e4, e5, e6⟩
            have hcall := fun w => ahead_any x y w
            have hmk : 0 < m - k := by omega
            have hmkz : (0 : Int) < ((m - k : Nat) : Int) := by omega
            have d3 : decide ((0 : Int) < ((m - k : Nat) : Int)) = true := decide_eq_true hmkz
            by_cases hl : Mat.Lt x y
            · rw [decide_eq_true hl] at hcall
              have hbh : Hid (Mat.behind s k x = s.drop k) := by
                show _ = _
                unfold Mat.behind; rw [hy]; simp only [if_pos hl]
              clear hl hy
              go_wp2_with fail
              go_region_held3 (fun w' => w'.cell? ⟨b, off + j * 6, none⟩ = some (.int .i64 x.a) ∧ w'.cell? ⟨b, off + j * 6 + 1, none⟩ = some (.int .i64 x.b) ∧ w'.cell? ⟨b, off + j * 6 + 2, none⟩ = some (.int .i64 x.c) ∧ w'.cell? ⟨b, off + j * 6 + 3, none⟩ = some (.int .i64 x.d) ∧ w'.cell? ⟨b, off + j * 6 + 4, none⟩ = some (.int .i64 x.e) ∧ w'.cell? ⟨b, off + j * 6 + 5, none⟩ = some (.int .i64 x.f) ∧ w'.cell? ⟨b2, off2, none⟩ = some (.int .i64 y.a) ∧ w'.cell? ⟨b2, off2 + 1, none⟩ = some (.int .i64 y.b) ∧ w'.cell? ⟨b2, off2 + 2, none⟩ = some (.int .i64 y.c) ∧ w'.cell? ⟨b2, off2 + 3, none⟩ = some (.int .i64 y.d) ∧ w'.cell? ⟨b2, off2 + 4, none⟩ = some (.int .i64 y.e) ∧ w'.cell? ⟨b2, off2 + 5, none⟩ = some (.int .i64 y.f)) (go_keep) (first
                | (go_at_call 29; refine (hcall _).mono ?_; rintro e w2 ⟨rfl, hb3⟩; have kx := Cells6.call (w := wc.drew) g1 hb3; obtain ⟨z1, z2, z3, z4, z5, z6⟩ := kx; have ky := Cells6.call (w := wc.drew) g2 hb3; obtain ⟨y1, y2, y3, y4, y5, y6⟩ := ky))
              go_wp2_with fail
              go_meet
              case rel => exact ⟨false, rfl, Or.inr ⟨rfl, hbh.out⟩, hbc.drew.trans (hb3.mono (by have := hbc.size; exact this))⟩
            · rw [decide_eq_false hl] at hcall
              have hbh : Hid (Mat.behind s k x = s.drop (k + 1)) := by
                show _ = _
                unfold Mat.behind; rw [hy]; simp only [if_neg hl]
              clear hl hy
              go_wp2_with fail
              go_region_held3 (fun w' => w'.cell? ⟨b, off + j * 6, none⟩ = some (.int .i64 x.a) ∧ w'.cell? ⟨b, off + j * 6 + 1, none⟩ = some (.int .i64 x.b) ∧ w'.cell? ⟨b, off + j * 6 + 2, none⟩ = some (.int .i64 x.c) ∧ w'.cell? ⟨b, off + j * 6 + 3, none⟩ = some (.int .i64 x.d) ∧ w'.cell? ⟨b, off + j * 6 + 4, none⟩ = some (.int .i64 x.e) ∧ w'.cell? ⟨b, off + j * 6 + 5, none⟩ = some (.int .i64 x.f) ∧ w'.cell? ⟨b2, off2, none⟩ = some (.int .i64 y.a) ∧ w'.cell? ⟨b2, off2 + 1, none⟩ = some (.int .i64 y.b) ∧ w'.cell? ⟨b2, off2 + 2, none⟩ = some (.int .i64 y.c) ∧ w'.cell? ⟨b2, off2 + 3, none⟩ = some (.int .i64 y.d) ∧ w'.cell? ⟨b2, off2 + 4, none⟩ = some (.int .i64 y.e) ∧ w'.cell? ⟨b2, off2 + 5, none⟩ = some (.int .i64 y.f)) (go_keep) (first
                | (go_at_call 29; refine (hcall _).mono ?_; rintro e w2 ⟨rfl, hb3⟩; have kx := Cells6.call (w := wc.drew) g1 hb3; obtain ⟨z1, z2, z3, z4, z5, z6⟩ := kx; have ky := Cells6.call (w := wc.drew) g2 hb3; obtain ⟨y1, y2, y3, y4, y5, y6⟩ := ky))
              go_wp2_with fail
              go_meet
              case rel => exact ⟨true, rfl, Or.inl ⟨rfl, by omega, hbh.out⟩, hbc.drew.trans (hb3.mono (by have := hbc.size; exact this))⟩
          · have hbh : Hid (Mat.behind s k x = s.drop k) := by
              show _ = _
              unfold Mat.behind
              rw [List.getElem?_eq_none (by rw [hm.out]; omega), List.drop_of_length_le (by rw [hm.out]; omega)]
            have hmkz : ¬ (0 : Int) < ((m - k : Nat) : Int) := by omega
            have d3 : decide ((0 : Int) < ((m - k : Nat) : Int)) = false := decide_eq_false hmkz
            have d4 : ¬ (0 : Nat) < m - k := by omega
            go_wp2_with fail
            go_quiet (fail)
            go_wp2_with fail
            go_meet
            case rel => exact ⟨false, rfl, Or.inr ⟨rfl, hbh.out⟩, bel_drewN hbc _⟩
        case rest =>
          obtain ⟨bv, rfl, hbv, hbd⟩ := hcut
          go_upto_if 46 with (fail)
          go_cut [6] (fun s6 wx => ∃ (r c3 : Nat) (A4 : Option Addr), s6 = .slice A4 r c3 ∧ Aside (Shows w1 w1.heap.size 6 A4 r (RC (Mat.behind s k x))) ∧ Hid ((Mat.behind s k x).length = r) ∧ k + r ≤ m ∧ Below w1.heap.size w1 wx)
          case first =>
            cases bv with
            | true =>
              have h3 : 1 ≤ m - k ∧ Mat.behind s k x = s.drop (k + 1) := by
                rcases hbv.out with ⟨_, h⟩ | ⟨h, _⟩
                · exact h
                · cases h
              have hcut4 := hcut3 h3.1
              have hsh4 := hsh3 h3.1
              rw [← h3.2] at hsh4
              have HS := Lib.hid hsh4
              have hmk := h3.1
              clear h3 hsh4 hcut3 hsh3
              go_wp2_with fail
              go_meet
              case rel => exact ⟨_, _, _, rfl, HS.out, HS.out.num6, by omega, hbd⟩
            | false =>
              have h3 : Mat.behind s k x = s.drop k := by
                rcases hbv.out with ⟨h, _⟩ | ⟨_, h⟩
                · cases h
                · exact h
              have hsh4 := hsF.out
              rw [← h3] at hsh4
              have HS := Lib.hid hsh4
              clear h3 hsh4 hcut3 hsh3
              go_wp2_with fail
              go_meet
              case rel => exact ⟨_, _, _, rfl, HS.out, HS.out.num6, by omega, hbd⟩
          case rest =>
            obtain ⟨r, c3, A4, rfl, hs4, hrl, hkr, hbw1⟩ := hcut
            clear hcut3 hsh3 hbv hbd hsF hcutF hat g1 hbc
            obtain ⟨w5, rfl⟩ : ∃ w5, w5 = wc := ⟨_, rfl⟩
            have hz5 := hbw1.size
            have hT : Shows w5 w5.heap.size 6 Aj k (RC (s.take k)) := by
              have := (hsh.out.take hkm).below hbw1
              rw [rc_take] at this
              exact this.up hz5
            have hF : Shows w5 w5.heap.size 6 A4 r (RC (Mat.behind s k x)) := (hs4.out.below hbw1).up hz5
            have g5 := g.below hbw1 (by omega)
            have b1 : Below w5.heap.size w5 w5.drew := (Below.refl _ w5).drew
            have eX : (w5.drew.alloc (.cells #[.int .i64 x.a, .int .i64 x.b, .int .i64 x.c, .int .i64 x.d, .int .i64 x.e, .int .i64 x.f] 28)).heap.size = w5.heap.size + 1 := by simp
            have eE : (w5.drew.alloc (.cells #[] 28)).heap.size = w5.heap.size + 1 := by simp
            have oA : (w5.drew.alloc (.cells #[] 28)).ownsRow w5.heap.size 28 6 (.slice (some ⟨w5.heap.size, 0, none⟩) 0 0) 0 (RC []) := own_none w5.drew w5.heap.size (Nat.le_refl _)
            have oC := own_none (w5.drew.alloc (.cells #[.int .i64 x.a, .int .i64 x.b, .int .i64 x.c, .int .i64 x.d, .int .i64 x.e, .int .i64 x.f] 28)) w5.heap.size (by rw [eX]; omega)
            rw [eX] at oC
            have xB : Block ((w5.drew.alloc (.cells #[] 28)).alloc (.cells #[.int .i64 x.a, .int .i64 x.b, .int .i64 x.c, .int .i64 x.d, .int .i64 x.e, .int .i64 x.f] 28)) (w5.heap.size + 1) 28 (RC [x]) := by
              have := (show Block ((w5.drew.alloc (.cells #[] 28)).alloc (.cells #[.int .i64 x.a, .int .i64 x.b, .int .i64 x.c, .int .i64 x.d, .int .i64 x.e, .int .i64 x.f] 28)) (w5.drew.alloc (.cells #[] 28)).heap.size 28 (RC [x]) from Block.new (w5.drew.alloc (.cells #[] 28)) _ (RC [x]))
              rw [eE] at this; exact this
            have xC : Block ((w5.drew.alloc (.cells #[.int .i64 x.a, .int .i64 x.b, .int .i64 x.c, .int .i64 x.d, .int .i64 x.e, .int .i64 x.f] 28)).alloc (.cells #[] 28)) w5.heap.size 28 (RC [x]) := Block.alloc (show Block (w5.drew.alloc (.cells #[.int .i64 x.a, .int .i64 x.b, .int .i64 x.c, .int .i64 x.d, .int .i64 x.e, .int .i64 x.f] 28)) w5.heap.size 28 (RC [x]) from Block.new w5.drew _ (RC [x])) _
            obtain ⟨Aa, ca, wa, Ab, cb, wb, Ac, cc, wd, rA1, rA2, rA3, oAc, bAc, bAa⟩ := three_app2 (cT := cj) (cF := c3) (x := x) rfl (bel_alloc b1 _) oA hT hF (by omega)
            obtain ⟨Ba, da, va, Bb, db, vb, Bc, dc, vc, rB1, rB2, rB3, oBc, bBc⟩ := three_app (cT := cj) (cF := c3) (x := x) rfl (bel_alloc (bel_alloc b1 _) _) (World.ownsRow.alloc oA (XO x)) hT hF xB (by omega) (by omega)
            obtain ⟨Ca, ea, ua, Cb, eb, ub, Cc, ec, uc, rC1, rC2, rC3, oCc, bCc⟩ := three_app (cT := cj) (cF := c3) (x := x) rfl (bel_alloc (bel_alloc b1 _) _) oC hT hF xC (by omega) (by omega)
            have hfin : Hid (Mat.srt (l.take (j + 1)) = s.take k ++ [x] ++ Mat.behind s k x) := by show _ = _; rw [hnext.out, HP.out]
            have hfl : Hid ((Mat.srt (l.take (j + 1))).length = k + 1 + r) := by show _ = _; rw [hfin.out, List.length_append, List.length_append, List.length_take, hm.out, hrl.out]; simp; omega
            have fA : Aside (wd.ownsRow w.heap.size 28 6 (.slice Ac (k + 1 + r) cc) (k + 1 + r) (RC (Mat.srt (l.take (j + 1)))) ∧ Below w.heap.size w wd) := by
              refine ⟨?_, bel_call hbel ((hbw1.trans (bAc.mono hz5)))⟩
              rw [hfin.out]; exact own_base oAc (by omega)
            have fB : Aside (vc.ownsRow w.heap.size 28 6 (.slice Bc (k + 1 + r) dc) (k + 1 + r) (RC (Mat.srt (l.take (j + 1)))) ∧ Below w.heap.size w vc) := by
              refine ⟨?_, bel_call hbel ((hbw1.trans (bBc.mono hz5)))⟩
              rw [hfin.out]; exact own_base oBc (by omega)
            have fC : Aside (uc.ownsRow w.heap.size 28 6 (.slice Cc (k + 1 + r) ec) (k + 1 + r) (RC (Mat.srt (l.take (j + 1)))) ∧ Below w.heap.size w uc) := by
              refine ⟨?_, bel_call hbel ((hbw1.trans (bCc.mono hz5)))⟩
              rw [hfin.out]; exact own_base oCc (by omega)
            have h5 : b < w5.heap.size := by omega
            have g6 : Cells6 w5.drew b (off + j * 6) x := g5
            obtain ⟨i1, i2, i3, i4, i5, i6⟩ := Cells6.alloc (w := w5.drew) g5 (.cells #[] 28)
            obtain ⟨k1, k2, k3, k4, k5, k6⟩ := Cells6.below g5 bAa h5
            obtain ⟨c1, c2, c3', c4, c5, c6⟩ := g5
            obtain ⟨e1, e2, e3, e4, e5, e6⟩ := g6
            have hkcj : k ≤ cj := by omega
            clear oAc oBc oCc bAc bBc bCc bAa xB xC oA oC eX eE b1 hT hF HP hfin hsh hs4 hown hm hnext
            go_wp2_with fail
            go_region_law (first
              | (refine step_append_runI rfl _ _ 22 22 rfl _ _ (by simp [Act.eval]) (by simp [Act.eval]) rA1 ?_)
              | (refine step_append_runI rfl _ _ 22 22 rfl _ _ (by simp [Act.eval]) (by simp [Act.eval]) rA2 ?_)
              | (refine step_append_runI rfl _ _ 22 22 rfl _ _ (by simp [Act.eval]) (by simp [Act.eval]) rA3 ?_)
              | (refine step_append_runI rfl _ _ 22 22 rfl _ _ (by simp [Act.eval]) (by simp [Act.eval]) rB1 ?_)
              | (refine step_append_runI rfl _ _ 22 22 rfl _ _ (by simp [Act.eval]) (by simp [Act.eval]) rB2 ?_)
              | (refine step_append_runI rfl _ _ 22 22 rfl _ _ (by simp [Act.eval]) (by simp [Act.eval]) rB3 ?_)
              | (refine step_append_runI rfl _ _ 22 22 rfl _ _ (by simp [Act.eval]) (by simp [Act.eval]) rC1 ?_)
              | (refine step_append_runI rfl _ _ 22 22 rfl _ _ (by simp [Act.eval]) (by simp [Act.eval]) rC2 ?_)
              | (refine step_append_runI rfl _ _ 22 22 rfl _ _ (by simp [Act.eval]) (by simp [Act.eval]) rC3 ?_))
            all_goals
              go_wp2_with fail
              go_roundw
            all_goals first
              | exact ⟨j + 1, k + 1 + r, _, _, rfl, by go_num, by omega, by omega, hfl, fA.out.1, fA.out.2⟩
              | exact ⟨j + 1, k + 1 + r, _, _, rfl, by go_num, by omega, by omega, hfl, fB.out.1, fB.out.2⟩
              | exact ⟨j + 1, k + 1 + r, _, _, rfl, by go_num, by omega, by omega, hfl, fC.out.1, fC.out.2⟩
              | (simp [intOf]; omega)
    · obtain rfl : j = n := by omega
      have hf : Hid (l.take j = l) := by show _ = _; exact List.take_of_length_le (by rw [Hl.out]; exact Nat.le_refl _)
      have hltz : ¬ (j : Int) < (j : Int) := by omega
      go_wp2_with fail
      go_ret
      rw [hf.out] at hm hown
      exact ⟨Aj, cj, by rw [hm.out]; rfl, by rw [hm.out]; exact hown.out, hbel⟩
end Go.Proofs.Ytiomkbpniplfhaa
