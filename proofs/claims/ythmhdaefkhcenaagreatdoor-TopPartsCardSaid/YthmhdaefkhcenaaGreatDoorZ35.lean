/- Lemmas for it; no condition: TJuris TCfg5 TCfr7 TCfr8. -/
import Derived.Test.YthmhdaefkhcenaaGreatDoorZ08
import Derived.Test.YthmhdaefkhcenaaGreatDoorZ19
import Derived.Test.YthmhdaefkhcenaaGreatDoorZ27
import Derived.Test.YthmhdaefkhcenaaGreatDoorZ34
set_option linter.unusedVariables false
set_option linter.unusedSimpArgs false
namespace Go.Proofs.YthmhdaefkhcenaaGreatDoor
set_option maxRecDepth 100000
set_option maxHeartbeats 8000000
open Go.RowKit

def juC (rb rc : Nat) : List Value := [.int .i64 7, .int .i64 1, .int .i64 0, .int .i64 1, .slice (some ⟨rb, 0, none⟩) 1 rc]
theorem jcheck (jb jc rb rc : Nat) (w : World) (h : Has w jb (juC rb rc)) : Calls Tryz.prog 63 #[.slice (some ⟨jb, 0, none⟩) 1 jc] w fun e w' => e = .returned (.tuple #[.int .i64 0, .int .i64 0]) ∧ Below w.heap.size w w' := by
  have kl := h.lt; have k0 := h.cell (j := 0) rfl; have k1 := h.cell (j := 1) rfl; have k2 := h.cell (j := 2) rfl; have k3 := h.cell (j := 3) rfl; have k4 := h.cell (j := 4) rfl
  go_enter Tryz.func63, Tryz.ntmps63
  go_wp2
  (repeat (first | (rw [rounds_succ]; go_wp2) | (refine wp_loop_rounds 3 ?_; rw [rounds_succ]; go_wp2) | (go_quiet (fail); go_wp2)))
  go_returns
  exact ⟨rfl, by exact sBel⟩
theorem jplace (jb jc rb rc : Nat) (w : World) (h : Has w jb (juC rb rc)) : Calls Tryz.prog 128 #[.slice (some ⟨jb, 0, none⟩) 1 jc, .int .i64 7] w fun e w' => e = .returned (.int .i64 0) ∧ Below w.heap.size w w' := by
  have kl := h.lt; have k0 := h.cell (j := 0) rfl; have k1 := h.cell (j := 1) rfl; have k2 := h.cell (j := 2) rfl; have k3 := h.cell (j := 3) rfl; have k4 := h.cell (j := 4) rfl
  have past_jb := past_alloc jb; have pl1_jb : jb < w.heap.size + 1 := (by omega); have pl2_jb : jb < w.heap.size + 1 + 1 := (by omega); have pl3_jb : jb < w.heap.size + 1 + 1 + 1 := (by omega); have pl4_jb : jb < w.heap.size + 1 + 1 + 1 + 1 := (by omega)
  go_enter Tryz.func128, Tryz.ntmps128
  go_wp2
  (repeat (first | (rw [rounds_succ]; go_wp2) | (refine wp_loop_rounds 3 ?_; rw [rounds_succ]; go_wp2) | (go_quiet (fail); go_wp2)))
  go_returns
  exact ⟨rfl, by exact sBel⟩
theorem agg_ju (w : World) : (isAgg 76).run Tryz.prog w = .ok true w := by kernel_rfl
theorem size_ju (w : World) : (sizeOf 76).run Tryz.prog w = .ok 5 w := by kernel_rfl
theorem jfind (jb jc rb rc : Nat) (w : World) (h : Has w jb (juC rb rc)) : Calls Tryz.prog 64 #[.slice (some ⟨jb, 0, none⟩) 1 jc, .int .i64 7] w fun e w' => e = .returned (.tuple #[.agg (juC rb rc).toArray, .bool true]) ∧ Below w.heap.size w w' := by
  go_enter Tryz.func64, Tryz.ntmps64
  go_wp2_with fail
  refine (jplace jb jc rb rc _ (by exact sHas)).mono ?_
  rintro e w1 ⟨rfl, hb1⟩
  have bel : Below w.heap.size w w1 := bel_call (by exact sBel) hb1
  have h1 := h.call bel
  have B1 : Block w1 w.heap.size 76 [.int .i64 0, .int .i64 0, .int .i64 0, .int .i64 0, .slice none 0 0] := by exact sBlk
  have kl := h1.lt; have k0 := h1.cell (j := 0) rfl; have k1 := h1.cell (j := 1) rfl; have k2 := h1.cell (j := 2) rfl; have k3 := h1.cell (j := 3) rfl; have k4 := h1.cell (j := 4) rfl
  obtain ⟨xl, xf, x0, x1, x2, x3, x4⟩ := B1.c5
  go_wp2_with fail
  exact ret_ct (T := 76) rfl rfl rfl (((((B1.set 0 (.int .i64 7)).set 1 (.int .i64 1)).set 2 (.int .i64 0)).set 3 (.int .i64 1)).set 4 (.slice (some ⟨rb, 0, none⟩) 1 rc)) agg_ju size_ju ⟨rfl, by exact sBel⟩
end Go.Proofs.YthmhdaefkhcenaaGreatDoor
namespace Go.Proofs.YthmhdaefkhcenaaGreatDoor
set_option maxRecDepth 100000
set_option maxHeartbeats 8000000
open Go.RowKit Go.Lib

def cfgJ : List Int := [1] ++ ([7, 1, 0, 1] ++ ([1] ++ ([4] ++ [0, 0] ++ [4, 0] ++ [4, 4] ++ [0, 4])))
def cfgR (rate : Int) : List Int := [1] ++ ([7] ++ ([1] ++ [0, rate]))
def cfgL (rate : Int) : List Int := cfgJ ++ cfgR rate ++ [0] ++ [0] ++ [0] ++ [0]
theorem Has.keptW {w W : World} {wb b : Nat} {cs : List Value} (h : Has w b cs) (hb : b < wb) (hK : KeptW wb w W) : Has W b cs := ⟨Nat.lt_of_lt_of_le h.lt hK.bel.size, fun j _ hj => (hK.bel.cell (p := ⟨b, j, none⟩) hb).trans (h.cell hj)⟩
theorem i64r (x : Int) (h0 : -9223372036854775808 ≤ x := by omega) (h1 : x ≤ 9223372036854775807 := by omega) : I64r x := ⟨h0, h1⟩
theorem bytesOf_short (l : List Int) (h : ∀ x ∈ l, I64r x) : (bytesOf l).length ≤ 10 * l.length := by
  have := bytesOf_len h l.length (by simp)
  simpa using this
theorem all_w (wb cb jb jc rb rc b c qb qc db dc : Nat) (rate : Int) (xs : List Int) (w : World) (hrt : I64r rate) (hW : WrAt w wb xs) (hC : Has w cb [.slice (some ⟨jb, 0, none⟩) 1 jc, .slice (some ⟨qb, 0, none⟩) 1 qc, .slice none 0 0, .slice none 0 0, .slice none 0 0, .slice none 0 0]) (hcb : cb < wb)
    (hj : Has w jb (juC rb rc)) (hjb : jb < wb) (hr : Has w rb [.slice (some ⟨b, 0, none⟩) 4 c]) (hrb : rb < wb) (h : Has w b boxC) (hbb : b < wb) (hq : Has w qb [.int .i64 7, .slice (some ⟨db, 0, none⟩) 1 dc]) (hqb : qb < wb) (hd : Has w db [.int .i64 0, .int .i64 rate]) (hdb : db < wb) (hb : xs.length ≤ 100) :
    Calls Tryz.prog 35 #[.iface 107 (.pointer (some ⟨wb, 0, none⟩)), .pointer (some ⟨cb, 0, none⟩)] w fun e w' => e = .returned (.tuple #[]) ∧ WrAt w' wb (xs ++ bytesOf (cfgL rate)) ∧ KeptW wb w w' := by
  have sJ := bytesOf_short cfgJ (by intro x hx; simp [cfgJ] at hx; unfold I64r; omega)
  have sR := bytesOf_short (cfgR rate) (by intro x hx; unfold I64r at *; simp [cfgR] at hx; omega)
  have s0 := bytesOf_short [0] (by intro x hx; simp at hx; unfold I64r; omega)
  simp only [show cfgJ.length = 15 from rfl, show (cfgR rate).length = 5 from rfl, List.length_cons, List.length_nil] at sJ sR s0
  have pt : ∀ (i : Nat) (x y : Int), boxC[i]? = some (.int .i64 x) → boxC[i + 1]? = some (.int .i64 y) → I64r x → I64r y → ItemW wb w 140 ⟨b, i, none⟩ [x, y] := fun i x y e1 e2 hx hy =>
    place_item wb b i x y w hx hy fun W hK => ⟨(h.keptW hbb hK).cell e1, (h.keptW hbb hK).cell e2⟩
  have itR := ring_item wb rb 0 b c [0, 0] [4, 0] [4, 4] [0, 4] w (fun W hK => (hr.keptW hrb hK).cell (j := 0) rfl) (pt 0 0 0 rfl rfl (i64r _) (i64r _)) (pt 2 4 0 rfl rfl (i64r _) (i64r _)) (pt 4 4 4 rfl rfl (i64r _) (i64r _)) (pt 6 0 4 rfl rfl (i64r _) (i64r _))
  have itJ := juris_item wb jb rb rc 7 1 0 1 _ w (i64r _) (i64r _) (i64r _) (i64r _) (fun W hK => ⟨(hj.keptW hjb hK).cell (j := 0) rfl, (hj.keptW hjb hK).cell (j := 1) rfl, (hj.keptW hjb hK).cell (j := 2) rfl, (hj.keptW hjb hK).cell (j := 3) rfl⟩) (fun W hK => (hj.keptW hjb hK).cell (j := 4) rfl) itR
  have itD := day_item wb db 0 0 rate w (i64r _) hrt (fun W hK => ⟨(hd.keptW hdb hK).cell (j := 0) rfl, (hd.keptW hdb hK).cell (j := 1) rfl⟩)
  have itQ := rated_item wb qb 0 db dc 7 [0, rate] w (i64r _) (fun W hK => (hq.keptW hqb hK).cell (j := 0) rfl) (fun W hK => (hq.keptW hqb hK).cell (j := 1) rfl) itD
  go_enter Tryz.func35, Tryz.ntmps35
  go_wp2_with fail
  refine (list_juris_w wb cb 0 jb jc _ xs w hW (fun W hK => (hC.keptW hcb hK).cell (j := 0) rfl) itJ (by rw [List.length_append]; show xs.length + (bytesOf cfgJ).length ≤ 80000; omega)).mono ?_
  rintro e w1 ⟨rfl, hW1, hK1⟩
  have hQ1 : KeptW wb w w1 := hK1
  replace hW1 : WrAt w1 wb (xs ++ bytesOf cfgJ) := hW1
  go_wp2_with fail
  refine (list_rated_w wb cb 1 qb qc _ _ w1 hW1 (fun W hK => (hC.keptW hcb (hQ1.trans hK)).cell (j := 1) rfl) (itQ.kept hQ1) (by rw [List.length_append, List.length_append]; show xs.length + (bytesOf cfgJ).length + (bytesOf (cfgR rate)).length ≤ 80000; omega)).mono ?_
  rintro e w2 ⟨rfl, hW2, hK2⟩
  have hQ2 := hQ1.trans hK2
  replace hW2 : WrAt w2 wb (xs ++ bytesOf cfgJ ++ bytesOf (cfgR rate)) := hW2
  go_wp2_with fail
  refine (list_rule_w wb cb 2 _ w2 hW2 (fun W hK => (hC.keptW hcb (hQ2.trans hK)).cell (j := 2) rfl) (by simp only [List.length_append]; omega)).mono ?_
  rintro e w3 ⟨rfl, hW3, hK3⟩
  have hQ3 := hQ2.trans hK3
  go_wp2_with fail
  refine (list_cert_w wb cb 3 _ w3 hW3 (fun W hK => (hC.keptW hcb (hQ3.trans hK)).cell (j := 3) rfl) (by simp only [List.length_append]; omega)).mono ?_
  rintro e w4 ⟨rfl, hW4, hK4⟩
  have hQ4 := hQ3.trans hK4
  go_wp2_with fail
  refine (list_holiday_w wb cb 4 _ w4 hW4 (fun W hK => (hC.keptW hcb (hQ4.trans hK)).cell (j := 4) rfl) (by simp only [List.length_append]; omega)).mono ?_
  rintro e w5 ⟨rfl, hW5, hK5⟩
  have hQ5 := hQ4.trans hK5
  go_wp2_with fail
  refine (list_street_w wb cb 5 _ w5 hW5 (fun W hK => (hC.keptW hcb (hQ5.trans hK)).cell (j := 5) rfl) (by simp only [List.length_append]; omega)).mono ?_
  rintro e w6 ⟨rfl, hW6, hK6⟩
  go_wp2_with fail
  go_end0
  refine ⟨rfl, ?_, hQ5.trans hK6⟩
  unfold cfgL
  simp only [bytesOf_append, ← List.append_assoc]
  exact hW6
theorem cfg_len (rate : Int) (hrt : I64r rate) : (bytesOf (cfgL rate)).length ≤ 240 := by
  have h := bytesOf_short (cfgL rate) (by intro x hx; unfold I64r at *; simp [cfgL, cfgJ, cfgR] at hx; omega)
  simpa only [show (cfgL rate).length = 24 from rfl] using h
theorem bytes_cfg (jb jc rb rc b c qb qc db dc : Nat) (rate : Int) (w : World) (hrt : I64r rate) (hj : Has w jb (juC rb rc)) (hr : Has w rb [.slice (some ⟨b, 0, none⟩) 4 c]) (h : Has w b boxC) (hq : Has w qb [.int .i64 7, .slice (some ⟨db, 0, none⟩) 1 dc]) (hd : Has w db [.int .i64 0, .int .i64 rate]) :
    Calls Tryz.prog 16 #[.agg #[.slice (some ⟨jb, 0, none⟩) 1 jc, .slice (some ⟨qb, 0, none⟩) 1 qc, .slice none 0 0, .slice none 0 0, .slice none 0 0, .slice none 0 0]] w fun e w' =>
      ∃ A c', e = .returned (.tuple #[.slice A (bytesOf (cfgL rate)).length c', .int .i64 0]) ∧ Full IsB w' w.heap.size 5 1 A (bytesOf (cfgL rate)).length c' (U8 (bytesOf (cfgL rate))) ∧ Below w.heap.size w w' := by
  have l1 := hj.lt
  have l2 := hr.lt
  have l3 := h.lt
  have l4 := hq.lt
  have l5 := hd.lt
  have hlen := cfg_len rate hrt
  obtain ⟨n, hn⟩ : ∃ n, (bytesOf (cfgL rate)).length = n := ⟨_, rfl⟩
  rw [hn] at hlen
  rw [hn]
  go_enter Tryz.func16, Tryz.ntmps16
  go_wp2_with fail
  refine at_world (fun W => Below w.heap.size w W ∧ W.heap.size = w.heap.size + 2 ∧ Block W w.heap.size 35 [.slice (some ⟨jb, 0, none⟩) 1 jc, .slice (some ⟨qb, 0, none⟩) 1 qc, .slice none 0 0, .slice none 0 0, .slice none 0 0, .slice none 0 0] ∧ Block W (w.heap.size + 1) 109 [.slice none 0 0]) ⟨by exact sBel, by simp, by exact sBlk, by exact sBlk⟩ ?_
  rintro W ⟨bel, hz, C, B⟩
  refine (all_w (w.heap.size + 1) w.heap.size jb jc rb rc b c qb qc db dc rate [] W hrt ⟨none, 0, B, Full.nil _ _ _ _ _⟩ (Has.of_block C) (by omega) (hj.call bel) (by omega) (hr.call bel) (by omega) (h.call bel) (by omega) (hq.call bel) (by omega) (hd.call bel) (by omega) (by simp)).mono ?_
  rintro e w1 ⟨rfl, ⟨A, c', B1, F1⟩, hK⟩
  rw [List.nil_append] at B1 F1
  rw [hn] at B1 F1
  have q1 : (n : Int) ≤ 65536 := by omega
  have B2 := B1
  obtain ⟨kl, kf, k0⟩ := B2.c1
  go_wp2_with fail
  go_returns
  exact ⟨A, c', rfl, F1.low (by omega), bel.trans (hK.bel.mono (by omega))⟩
end Go.Proofs.YthmhdaefkhcenaaGreatDoor
namespace Go.Proofs.YthmhdaefkhcenaaGreatDoor
set_option maxRecDepth 100000
set_option maxHeartbeats 8000000
open Go.RowKit Go.Lib

def PDay (x y : Int) (_ : Nat) (_ : World) (ds : List Value) : Prop := ds = [.int .i64 x, .int .i64 y]
def PRing (n : Nat) (W : World) (ds : List Value) : Prop := ∃ b c, ds = [.slice (some ⟨b, 0, none⟩) 4 c] ∧ 4 ≤ c ∧ n ≤ b ∧ Has W b boxC
def PJuris (n : Nat) (W : World) (ds : List Value) : Prop := ∃ rb rc, ds = juC rb rc ∧ 1 ≤ rc ∧ n ≤ rb ∧ ∃ b c, Has W rb [.slice (some ⟨b, 0, none⟩) 4 c] ∧ n ≤ b ∧ Has W b boxC
def PRated (rate : Int) (n : Nat) (W : World) (ds : List Value) : Prop := ∃ db dc, ds = [.int .i64 7, .slice (some ⟨db, 0, none⟩) 1 dc] ∧ 1 ≤ dc ∧ n ≤ db ∧ Has W db [.int .i64 0, .int .i64 rate]
theorem firm_day (x y : Int) : Firm (PDay x y) := ⟨fun _ _ _ _ h _ => h, fun _ _ _ _ h _ => h⟩
theorem firm_ring : Firm PRing := ⟨fun _ _ _ _ ⟨b, c, h1, h2, h3, h4⟩ hA => ⟨b, c, h1, h2, h3, h4.above hA h3⟩, fun _ _ _ _ ⟨b, c, h1, h2, h3, h4⟩ hm => ⟨b, c, h1, h2, Nat.le_trans hm h3, h4⟩⟩
theorem firm_juris : Firm PJuris := ⟨fun _ _ _ _ ⟨rb, rc, h1, h2, h3, b, c, h4, h5, h6⟩ hA => ⟨rb, rc, h1, h2, h3, b, c, h4.above hA h3, h5, h6.above hA h5⟩, fun _ _ _ _ ⟨rb, rc, h1, h2, h3, b, c, h4, h5, h6⟩ hm => ⟨rb, rc, h1, h2, Nat.le_trans hm h3, b, c, h4, Nat.le_trans hm h5, h6⟩⟩
theorem firm_rated (rate : Int) : Firm (PRated rate) := ⟨fun _ _ _ _ ⟨b, c, h1, h2, h3, h4⟩ hA => ⟨b, c, h1, h2, h3, h4.above hA h3⟩, fun _ _ _ _ ⟨b, c, h1, h2, h3, h4⟩ hm => ⟨b, c, h1, h2, Nat.le_trans hm h3, h4⟩⟩
def boxL (l : List Int) : List Int := 4 :: 0 :: 0 :: 4 :: 0 :: 4 :: 4 :: 0 :: 4 :: l
theorem ring_r (qb p i R : Nat) (tp : TypeId) (cs : List Value) (A : Option Addr) (c : Nat) (xs l : List Int) (B : Nat) (w : World) (h : RdL w R A c xs (boxL l) B) (hq : Block w qb 275 [.pointer (some ⟨R, 0, none⟩)]) (hqR : qb ≠ R) (hqp : qb ≠ p)
    (hP : Block w p tp cs) (hi : cs[i]? = some (.slice none 0 0)) (hpR : p ≠ R) (hBp : B ≤ p) :
    Calls Tryz.prog 137 #[.iface 273 (.pointer (some ⟨qb, 0, none⟩)), .pointer (some ⟨p, i, none⟩)] w fun e w' => e = .returned (.tuple #[]) ∧ RdL w' R A c xs l B ∧ Kept [R, p] w w' ∧ ∃ g cg, Block w' p tp (cs.set i (.slice (some ⟨g, 0, none⟩) 4 cg)) ∧ 4 ≤ cg ∧ w.heap.size ≤ g ∧ Has w' g boxC := by
  go_enter Tryz.func137, Tryz.ntmps137
  go_wp2_with fail
  refine (list4_point_r 0 0 4 0 4 4 0 4 qb p i R tp cs A c xs l B w h (i64r _) (i64r _) (i64r _) (i64r _) (i64r _) (i64r _) (i64r _) (i64r _) hq hqR hqp hP hi hpR hBp).mono ?_
  rintro e w1 ⟨rfl, h1, K1, g, cg, P1, hc, hg, hH⟩
  go_wp2_with fail
  go_end0
  exact ⟨rfl, h1, K1, g, cg, P1, hc, hg, hH⟩
theorem rated_r (rate : Int) (hrt : I64r rate) (qb p R : Nat) (A : Option Addr) (c : Nat) (xs l : List Int) (B : Nat) (w : World) (h : RdL w R A c xs (7 :: 1 :: 0 :: rate :: l) B) (hq : Block w qb 275 [.pointer (some ⟨R, 0, none⟩)]) (hqR : qb ≠ R) (hqp : qb ≠ p)
    (hP : Block w p 81 [.int .i64 0, .slice none 0 0]) (hpR : p ≠ R) (hBp : B ≤ p) :
    Calls Tryz.prog 73 #[.iface 273 (.pointer (some ⟨qb, 0, none⟩)), .pointer (some ⟨p, 0, none⟩)] w fun e w' => e = .returned (.tuple #[]) ∧ RdL w' R A c xs l B ∧ Kept [R, p] w w' ∧ ∃ d0 d1, Block w' p 81 [d0, d1] ∧ PRated rate w.heap.size w' [d0, d1] := by
  have hRl := h.lt
  have hpl := hP.lt
  have hql := hq.lt
  go_enter Tryz.func73, Tryz.ntmps73
  go_wp2_with fail
  refine (numbers1_r qb p 0 R w.heap.size 161 81 [.int .i64 0, .slice none 0 0] A c xs (1 :: 0 :: rate :: l) 7 B _ (h.call (by exact sBel)) (i64r _) (hq.alloc _) hqR hqp (btop (cs := [.pointer (some ⟨p, 0, none⟩)]) rfl) (by omega) (by omega) (hP.alloc _) (by simp) hpR hBp).mono ?_
  rintro e w1 ⟨rfl, h1, P1, K1⟩
  have q1 : Block w1 qb 275 [.pointer (some ⟨R, 0, none⟩)] := (hq.alloc _).keptX K1 (by simp; omega)
  replace P1 : Block w1 p 81 [.int .i64 7, .slice none 0 0] := P1
  have ql1 := q1.lt
  have pl1 := P1.lt
  have hz := K1.size
  simp at hz
  go_wp2_with fail
  refine (list1_dated_r (firm_day 0 rate) [0, rate] qb p 1 R 81 [.int .i64 7, .slice none 0 0] A c xs l B w1 h1 q1 hqR hqp P1 rfl hpR hBp ?_).mono ?_
  · intro g W hr hQ hne hD hgR hBg
    refine (day_r qb g 0 R 78 [.int .i64 0, .int .i64 0] A c xs l 0 rate B W hr (i64r _) hrt hQ hqR hne hD (by simp) hgR hBg).mono ?_
    rintro e w' ⟨rfl, a1, a2, a3⟩
    exact ⟨rfl, a1, a3, _, _, a2, rfl⟩
  rintro e w2 ⟨rfl, h2, K2, g, cg, d0, d1, P2, hcg, hg, hH, hD⟩
  unfold PDay at hD
  rw [hD] at hH
  go_wp2_with fail
  go_end0
  exact ⟨rfl, h2, (Kept.pre (by exact sBel) K1).next K2, _, _, P2, g, cg, rfl, hcg, by omega, hH⟩
theorem juris_r (qb p R : Nat) (A : Option Addr) (c : Nat) (xs l : List Int) (B : Nat) (w : World) (h : RdL w R A c xs (7 :: 1 :: 0 :: 1 :: 1 :: boxL l) B) (hq : Block w qb 275 [.pointer (some ⟨R, 0, none⟩)]) (hqR : qb ≠ R) (hqp : qb ≠ p)
    (hP : Block w p 76 [.int .i64 0, .int .i64 0, .int .i64 0, .int .i64 0, .slice none 0 0]) (hpR : p ≠ R) (hBp : B ≤ p) :
    Calls Tryz.prog 71 #[.iface 273 (.pointer (some ⟨qb, 0, none⟩)), .pointer (some ⟨p, 0, none⟩)] w fun e w' => e = .returned (.tuple #[]) ∧ RdL w' R A c xs l B ∧ Kept [R, p] w w' ∧ ∃ d0 d1 d2 d3 d4, Block w' p 76 [d0, d1, d2, d3, d4] ∧ PJuris w.heap.size w' [d0, d1, d2, d3, d4] := by
  have hRl := h.lt
  have hpl := hP.lt
  have hql := hq.lt
  have hP0 := hP
  obtain ⟨kl, kf, k0, k1, k2, k3, k4⟩ := hP0.c5
  go_enter Tryz.func71, Tryz.ntmps71
  go_wp2_with fail
  refine AnyBut.region (S := fun _ => True) (t := 99) 15 rfl (by kernel_rfl) trivial ?_
  intro hS
  refine AnyBut.tk0 0 hS rfl (h := ?_); refine AnyBut.tk0 1 hS rfl (h := ?_); refine AnyBut.tk0 2 hS rfl (h := ?_); refine AnyBut.tk0 3 hS rfl (h := ?_); refine AnyBut.tk0 4 hS rfl (h := ?_); refine AnyBut.tk0 5 hS rfl (h := ?_); refine AnyBut.tk0 6 hS rfl (h := ?_); refine AnyBut.tk0 7 hS rfl (h := ?_); refine AnyBut.tk0 8 hS rfl (h := ?_); refine AnyBut.tk0 9 hS rfl (h := ?_); refine AnyBut.tk0 10 hS rfl (h := ?_); refine AnyBut.tk0 11 hS rfl (h := ?_); refine AnyBut.tk0 12 hS rfl (h := ?_)
  refine AnyBut.one (i := 13) rfl (by kernel_rfl) rfl ?_; intro K hK; go_simp; refine hK _ _ ?_ ?_ <;> clear hK K; rotate_left; intro hS; rotate_left
  · trivial
  refine AnyBut.one (i := 14) rfl (by kernel_rfl) rfl ?_; intro K hK
  go_wp2_with fail
  refine (numbers4_r qb p 0 R w.heap.size 161 76 [.int .i64 0, .int .i64 0, .int .i64 0, .int .i64 0, .slice none 0 0] A c xs (1 :: boxL l) 7 1 0 1 B _ (h.call (by exact sBel)) (i64r _) (i64r _) (i64r _) (i64r _) (by exact sBlk) hqR hqp (Block.drew (btop (cs := [.pointer (some ⟨p, 0, none⟩), .pointer (some ⟨p, 1, none⟩), .pointer (some ⟨p, 2, none⟩), .pointer (some ⟨p, 3, none⟩)]) rfl)) (by omega) (by omega) (by exact sBlk) (by simp) hpR hBp).mono ?_
  rintro e w1 ⟨rfl, h1, P1, K1⟩
  refine hK _ _ trivial ?_
  intro _
  refine AnyBut.done (by kernel_rfl) ?_
  have q1 : Block w1 qb 275 [.pointer (some ⟨R, 0, none⟩)] := (hq.alloc _).drew.keptX K1 (by simp; omega)
  replace P1 : Block w1 p 76 [.int .i64 7, .int .i64 1, .int .i64 0, .int .i64 1, .slice none 0 0] := P1
  have ql1 := q1.lt
  have pl1 := P1.lt
  have hz := K1.size
  simp at hz
  go_wp2_with fail
  refine (list1_ring_r firm_ring [4, 0, 0, 4, 0, 4, 4, 0, 4] qb p 4 R 76 [.int .i64 7, .int .i64 1, .int .i64 0, .int .i64 1, .slice none 0 0] A c xs l B w1 h1 q1 hqR hqp P1 rfl hpR hBp ?_).mono ?_
  · intro g W hr hQ hne hD hgR hBg
    refine (ring_r qb g 0 R 82 [.slice none 0 0] A c xs l B W hr hQ hqR hne hD rfl hgR hBg).mono ?_
    rintro e w' ⟨rfl, a1, a2, g1, cg1, a3, a4, a5, a6⟩
    exact ⟨rfl, a1, a2, _, _, _, a3, _, _, rfl, a4, a5, a6⟩
  rintro e w2 ⟨rfl, h2, K2, g, cg, s0, n0, c0, P2, hcg, hg, hH, b, cb, hd, hcb, hb, hHb⟩
  rw [hd] at hH
  go_wp2_with fail
  go_end0
  exact ⟨rfl, h2, (Kept.pre (by exact sBel) K1).next K2, _, _, _, _, _, P2, g, cg, rfl, hcg, by omega, b, cb, hH, by omega, hHb⟩
def CfgV (rate : Int) (n : Nat) (W : World) (v : Value) : Prop := ∃ jb jc qb qc rb rc db dc b c, v = .agg #[.slice (some ⟨jb, 0, none⟩) 1 jc, .slice (some ⟨qb, 0, none⟩) 1 qc, .slice none 0 0, .slice none 0 0, .slice none 0 0, .slice none 0 0] ∧
  Has W jb (juC rb rc) ∧ Has W rb [.slice (some ⟨b, 0, none⟩) 4 c] ∧ Has W b boxC ∧ Has W qb [.int .i64 7, .slice (some ⟨db, 0, none⟩) 1 dc] ∧ Has W db [.int .i64 0, .int .i64 rate] ∧ (1 ≤ jc ∧ 1 ≤ qc ∧ 1 ≤ rc ∧ 1 ≤ dc) ∧ n ≤ jb ∧ n ≤ qb ∧ n ≤ rb ∧ n ≤ db ∧ n ≤ b
theorem CfgV.call {rate : Int} {n : Nat} {W W' : World} {v : Value} (h : CfgV rate n W v) (hb : Below W.heap.size W W') : CfgV rate n W' v := by
  obtain ⟨jb, jc, qb, qc, rb, rc, db, dc, b, c, h0, h1, h2, h3, h4, h5, h6⟩ := h
  exact ⟨jb, jc, qb, qc, rb, rc, db, dc, b, c, h0, h1.call hb, h2.call hb, h3.call hb, h4.call hb, h5.call hb, h6⟩
theorem CfgV.keptX {rate : Int} {n : Nat} {X : List Nat} {W W' : World} {v : Value} (h : CfgV rate n W v) (hK : Kept X W W') (hX : ∀ k ∈ X, k < n ∨ W.heap.size ≤ k) : CfgV rate n W' v := by
  obtain ⟨jb, jc, qb, qc, rb, rc, db, dc, b, c, h0, h1, h2, h3, h4, h5, h6, g1, g2, g3, g4, g5⟩ := h
  have hA := hK.above hX
  exact ⟨jb, jc, qb, qc, rb, rc, db, dc, b, c, h0, h1.above hA g1, h2.above hA g3, h3.above hA g5, h4.above hA g2, h5.above hA g4, h6, g1, g2, g3, g4, g5⟩
theorem all_r (rate : Int) (hrt : I64r rate) (qb p R : Nat) (A : Option Addr) (c : Nat) (xs : List Int) (B : Nat) (w : World) (h : RdL w R A c xs (cfgL rate) B) (hq : Block w qb 275 [.pointer (some ⟨R, 0, none⟩)]) (hqR : qb ≠ R) (hqp : qb ≠ p)
    (hP : Block w p 35 [.slice none 0 0, .slice none 0 0, .slice none 0 0, .slice none 0 0, .slice none 0 0, .slice none 0 0]) (hpR : p ≠ R) (hBp : B ≤ p) :
    Calls Tryz.prog 35 #[.iface 273 (.pointer (some ⟨qb, 0, none⟩)), .pointer (some ⟨p, 0, none⟩)] w fun e w' => e = .returned (.tuple #[]) ∧ RdL w' R A c xs [] B ∧ Kept [R, p] w w' ∧ ∃ v : List Value, Block w' p 35 v ∧ CfgV rate w.heap.size w' (.agg v.toArray) := by
  have hRl := h.lt
  have hpl := hP.lt
  have hql := hq.lt
  have hL : cfgL rate = 1 :: ([7, 1, 0, 1, 1, 4, 0, 0, 4, 0, 4, 4, 0, 4] ++ (1 :: ([7, 1, 0, rate] ++ [0, 0, 0, 0]))) := rfl
  rw [hL] at h
  clear hL
  go_enter Tryz.func35, Tryz.ntmps35
  go_wp2_with fail
  refine (list1_juris_r firm_juris [7, 1, 0, 1, 1, 4, 0, 0, 4, 0, 4, 4, 0, 4] qb p 0 R _ _ A c xs (1 :: ([7, 1, 0, rate] ++ [0, 0, 0, 0])) B w h hq hqR hqp hP rfl hpR hBp ?_).mono ?_
  · intro g W hr hQ hne hD hgR hBg
    refine (juris_r qb g R A c xs _ B W hr hQ hqR hne hD hgR hBg).mono ?_
    rintro e w' ⟨rfl, a1, a2, d0, d1, d2, d3, d4, a3, a4⟩
    exact ⟨rfl, a1, a2, d0, d1, d2, d3, d4, a3, a4⟩
  rintro e w1 ⟨rfl, h1, K1, jb, jc, d0, d1, d2, d3, d4, P1, hjc, hjb, hJ, rb, rc, hd, hrc, hrb, b, cb, hR, hb, hB⟩
  rw [hd] at hJ
  have q1 := KeptR.block K1 hq hqR hqp
  go_wp2_with fail
  refine (list1_rated_r (firm_rated rate) [7, 1, 0, rate] qb p 1 R _ _ A c xs [0, 0, 0, 0] B w1 h1 q1 hqR hqp P1 rfl hpR hBp ?_).mono ?_
  · intro g W hr hQ hne hD hgR hBg
    exact rated_r rate hrt qb g R A c xs _ B W hr hQ hqR hne hD hgR hBg
  rintro e w2 ⟨rfl, h2, K2, qb2, qc2, e0, e1, P2, hqc, hqb, hQ2, db, dc, hd2, hdc, hdb, hD⟩
  rw [hd2] at hQ2
  have q2 := KeptR.block K2 q1 hqR hqp
  have z1 := K1.size
  have z2 := K2.size
  replace P2 : Block w2 p 35 [.slice (some ⟨jb, 0, none⟩) 1 jc, .slice (some ⟨qb2, 0, none⟩) 1 qc2, .slice none 0 0, .slice none 0 0, .slice none 0 0, .slice none 0 0] := P2
  have hV : CfgV rate w.heap.size w2 (.agg [.slice (some ⟨jb, 0, none⟩) 1 jc, .slice (some ⟨qb2, 0, none⟩) 1 qc2, .slice none 0 0, .slice none 0 0, .slice none 0 0, .slice none 0 0].toArray) := by
    have hA := K2.above (n := w.heap.size) (by intro k hk; simp at hk; omega)
    exact ⟨jb, jc, qb2, qc2, rb, rc, db, dc, b, cb, rfl, hJ.above hA hjb, hR.above hA hrb, hB.above hA hb, hQ2, hD, by omega, by omega, by omega, by omega, by omega, by omega⟩
  have KK := K1.next K2
  clear hJ hR hB hQ2 hD K1 K2 h1 q1 P1 hd hd2
  go_wp2_with fail
  refine (list0_rule_r qb p 2 R _ _ A c xs [0, 0, 0] B w2 h2 q2 P2 rfl hpR).mono ?_
  rintro e w3 ⟨rfl, h3, K3⟩
  have P3 := P2.keptX K3 (by simpa using hpR)
  have q3 := q2.keptX K3 (by simpa using hqR)
  replace hV := hV.keptX K3 (by intro k hk; simp at hk; omega)
  replace KK := KK.trans K3 (by simp)
  have z3 := K3.size
  go_wp2_with fail
  refine (list0_cert_r qb p 3 R _ _ A c xs [0, 0] B w3 h3 q3 P3 rfl hpR).mono ?_
  rintro e w4 ⟨rfl, h4, K4⟩
  have P4 := P3.keptX K4 (by simpa using hpR)
  have q4 := q3.keptX K4 (by simpa using hqR)
  replace hV := hV.keptX K4 (by intro k hk; simp at hk; omega)
  replace KK := KK.trans K4 (by simp)
  have z4 := K4.size
  go_wp2_with fail
  refine (list0_holiday_r qb p 4 R _ _ A c xs [0] B w4 h4 q4 P4 rfl hpR).mono ?_
  rintro e w5 ⟨rfl, h5, K5⟩
  have P5 := P4.keptX K5 (by simpa using hpR)
  have q5 := q4.keptX K5 (by simpa using hqR)
  replace hV := hV.keptX K5 (by intro k hk; simp at hk; omega)
  replace KK := KK.trans K5 (by simp)
  have z5 := K5.size
  go_wp2_with fail
  refine (list0_street_r qb p 5 R _ _ A c xs [] B w5 h5 q5 P5 rfl hpR).mono ?_
  rintro e w6 ⟨rfl, h6, K6⟩
  go_wp2_with fail
  go_end0
  exact ⟨rfl, h6, KK.trans K6 (by simp), _, P5.keptX K6 (by simpa using hpR), hV.keptX K6 (by intro k hk; simp at hk; omega)⟩
theorem rd_end {w : World} {R : Nat} {A : Option Addr} {c : Nat} {xs : List Int} {B : Nat} (h : RdL w R A c xs [] B) : ∃ (k : Nat) (fa : Int), RD w R A xs.length c k 0 fa true ∧ xs.length ≤ k := by
  obtain ⟨k, fa, h1, h2⟩ := h.rd
  exact ⟨k, fa, h1, by simpa [bytesOf, List.drop_eq_nil_iff] using h2⟩
theorem bytesOf_byte (l : List Int) : ∀ x ∈ bytesOf l, 0 ≤ x ∧ x ≤ 255 := by
  induction l with
  | nil => intro x hx; simp [bytesOf] at hx
  | cons y l ih =>
    intro x hx
    rcases List.mem_append.1 hx with h | h
    · exact Oct.putN_bytes _ x h
    · exact ih x h
end Go.Proofs.YthmhdaefkhcenaaGreatDoor
namespace Go.Proofs.YthmhdaefkhcenaaGreatDoor
open Go.RowKit Go.Lib

section
variable {P : Program} {fn : Func} {R : Ending → World → Prop} {a : Act} {w : World} {T : TypeId} {b : Nat} {cs : List Value}
theorem ret_tcS {x p : Tmp} (hr : fn.results = #[.tmp x, .cell p T]) (hd : a.defers = []) (hp : a.tmps.getD p undef = .pointer (some ⟨b, 0, none⟩)) (hb : CellsAt w b 0 cs) (ha : ∀ w, (isAgg T).run P w = .ok true w) (hs : ∀ w, (sizeOf T).run P w = .ok cs.length w)
    (hR : R (.returned (.tuple #[a.tmps.getD x undef, .agg cs.toArray])) w) : bodyPost P fn R .ret a w := by
  refine bodyPost_ret (v := .tuple #[a.tmps.getD x undef, .agg cs.toArray]) ?_ hd hR
  simp only [results, hr]
  simp [Sem.run_bind, Result.andThen]
  rw [show a.tmps[p]?.getD undef = .pointer (some ⟨b, 0, none⟩) by rw [← hp]; simp]
  simp [asAddr, Sem.run_pure, run_loadVar_cells hb ha hs]
end
theorem CfgV.mono {rate : Int} {m n : Nat} {W : World} {v : Value} (hm : m ≤ n) (h : CfgV rate n W v) : CfgV rate m W v := by
  obtain ⟨jb, jc, qb, qc, rb, rc, db, dc, b, c, h0, h1, h2, h3, h4, h5, h6, g1, g2, g3, g4, g5⟩ := h
  exact ⟨jb, jc, qb, qc, rb, rc, db, dc, b, c, h0, h1, h2, h3, h4, h5, h6, by omega, by omega, by omega, by omega, by omega⟩
theorem agg_cfg (w : World) : (isAgg 35).run Tryz.prog w = .ok true w := by kernel_rfl
theorem size_cfg (w : World) : (sizeOf 35).run Tryz.prog w = .ok 6 w := by kernel_rfl
set_option maxRecDepth 100000 in
set_option maxHeartbeats 8000000 in
theorem read_cfg (rate : Int) (hrt : I64r rate) (A : Option Addr) (c B : Nat) (w : World) (hs : Shows w B 1 A (bytesOf (cfgL rate)).length (U8 (bytesOf (cfgL rate)))) (hB : B ≤ w.heap.size) :
    Calls Tryz.prog 82 #[.slice A (bytesOf (cfgL rate)).length c] w fun e w' => ∃ v, e = .returned (.tuple #[v, .agg #[.int .i64 0, .int .i64 0]]) ∧ CfgV rate w.heap.size w' v ∧ Below w.heap.size w w' := by
  have hlen := cfg_len rate hrt
  have hby := bytesOf_byte (cfgL rate)
  obtain ⟨xs, hxs⟩ : ∃ xs, bytesOf (cfgL rate) = xs := ⟨_, rfl⟩
  have hxs' := Lib.hid hxs
  rw [hxs] at hs hlen hby ⊢
  clear hxs
  have q0 : (xs.length : Int) ≤ 65536 := by omega
  go_enter Tryz.func82, Tryz.ntmps82
  go_wp2_with fail
  refine (new_any A xs.length c xs B _ ((hs.alloc hB _).alloc (by simp; omega) _) (by simp; omega) (by omega)).mono ?_
  rintro e w1 ⟨R, A1, c1, rfl, hR1, hs1, hc1, hRz, hb1⟩
  have bel1 : Below w.heap.size w w1 := bel_call (by exact sBel) hb1
  have b1 : Block w1 w.heap.size 35 [.slice none 0 0, .slice none 0 0, .slice none 0 0, .slice none 0 0, .slice none 0 0, .slice none 0 0] := Block.call (by exact sBlk) hb1
  have b2 : Block w1 (w.heap.size + 1) 194 [.int .i64 0, .int .i64 0] := Block.call (by exact sBlk) hb1
  have z1 := Block.lt hR1
  simp at hRz
  clear hb1
  go_wp2_with fail
  refine at_world (fun W => Below w1.heap.size w1 W ∧ W.heap.size = w1.heap.size + 2 ∧ Block W w1.heap.size 275 [.pointer (some ⟨R, 0, none⟩)] ∧ Block W (w1.heap.size + 1) 35 [.slice none 0 0, .slice none 0 0, .slice none 0 0, .slice none 0 0, .slice none 0 0, .slice none 0 0]) ⟨by exact sBel, by simp, by exact sBlk, by exact sBlk⟩ ?_
  rintro W ⟨bel, hz, hq, hP⟩
  refine (all_r rate hrt w1.heap.size (w1.heap.size + 1) R A1 c1 xs R W ⟨⟨0, 0, Block.call hR1 bel, by rw [← hxs'.out]; rfl⟩, hs1.call bel (by omega), Nat.le_refl _, hc1, by omega, hby⟩ hq (by omega) (by omega) hP (by omega) (by omega)).mono ?_
  rintro e w2 ⟨rfl, h2, K2, v, P2, V2⟩
  obtain ⟨k, fa, hR2, hk⟩ := rd_end h2
  obtain ⟨jb, jc, qc1, qc, rb, rc, db, dc, b, cb, hv, V3⟩ := V2
  have hv2 : v = [.slice (some ⟨jb, 0, none⟩) 1 jc, .slice (some ⟨qc1, 0, none⟩) 1 qc, .slice none 0 0, .slice none 0 0, .slice none 0 0, .slice none 0 0] := by injection hv with hv; simpa using congrArg Array.toList hv
  subst hv2
  clear hv
  have q2 : Block w2 w1.heap.size 275 [.pointer (some ⟨R, 0, none⟩)] := hq.keptX K2 (by simp; omega)
  have q3 := q2
  obtain ⟨kl, kf, k0⟩ := q3.c1
  have b3 : Block w2 (w.heap.size + 1) 194 [.int .i64 0, .int .i64 0] := ((b2.call bel).keptX K2 (by simp; omega))
  have b4 : Block w2 w.heap.size 35 [.slice none 0 0, .slice none 0 0, .slice none 0 0, .slice none 0 0, .slice none 0 0, .slice none 0 0] := ((b1.call bel).keptX K2 (by simp; omega))
  have z2 := K2.size
  go_wp2_with fail
  refine (end_made R A1 xs.length c1 k 0 fa w2 hR2 (e1 := 0) (e2 := fa) (by unfold rdE; simp; omega)).mono ?_
  rintro e w3 ⟨rfl, hb3⟩
  have P3 := P2.call hb3
  have b5 := b3.call hb3
  have b6 := b4.call hb3
  have y1 := bel1.size
  have y2 := bel.size
  have y3 := hb3.size
  have bb : Below w.heap.size w w3 := ((bel_call bel1 bel).trans (K2.below (by simp; omega) (by omega))).trans (hb3.mono (by omega))
  have V4 : CfgV rate (w.heap.size + 2) w3 (.agg #[.slice (some ⟨jb, 0, none⟩) 1 jc, .slice (some ⟨qc1, 0, none⟩) 1 qc, .slice none 0 0, .slice none 0 0, .slice none 0 0, .slice none 0 0]) := by
    obtain ⟨v1, v2, v3, v4, v5, v6, g1, g2, g3, g4, g5⟩ := V3
    exact CfgV.call ⟨jb, jc, qc1, qc, rb, rc, db, dc, b, cb, rfl, v1, v2, v3, v4, v5, v6, by omega, by omega, by omega, by omega, by omega⟩ hb3
  go_upto_region 9 with (fail)
  refine at_code (fun W => Below w.heap.size w W ∧ Block W (w1.heap.size + 1) 35 [.slice (some ⟨jb, 0, none⟩) 1 jc, .slice (some ⟨qc1, 0, none⟩) 1 qc, .slice none 0 0, .slice none 0 0, .slice none 0 0, .slice none 0 0] ∧
    CfgV rate (w.heap.size + 2) W (.agg #[.slice (some ⟨jb, 0, none⟩) 1 jc, .slice (some ⟨qc1, 0, none⟩) 1 qc, .slice none 0 0, .slice none 0 0, .slice none 0 0, .slice none 0 0]) ∧ Block W (w.heap.size + 1) 194 [.int .i64 0, .int .i64 0] ∧ Block W w.heap.size 35 [.slice none 0 0, .slice none 0 0, .slice none 0 0, .slice none 0 0, .slice none 0 0, .slice none 0 0])
    ⟨by exact sBel, by exact sBlk, V4.call (by exact sBel), by exact sBlk, by exact sBlk⟩ ?_
  clear bb V4 b5 b6 P3 V3
  rintro W5 ⟨bb, P3, V4, b5, b6⟩
  obtain ⟨pl, pf, p0, p1, p2, p3, p4, p5⟩ := P3.c6
  obtain ⟨fl, ff, f0, f1⟩ := b5.c2
  obtain ⟨gl, gf, g0, g1, g2, g3, g4, g5⟩ := b6.c6
  go_wp2_with fail
  have VV : [Value.slice (some ⟨jb, 0, none⟩) 1 jc, .slice (some ⟨qc1, 0, none⟩) 1 qc, .slice none 0 0, .slice none 0 0, .slice none 0 0, .slice none 0 0].length = 6 := rfl
  refine ret_ccS (b := w.heap.size) (b2 := w.heap.size + 1) (cs := [.slice (some ⟨jb, 0, none⟩) 1 jc, .slice (some ⟨qc1, 0, none⟩) 1 qc, .slice none 0 0, .slice none 0 0, .slice none 0 0, .slice none 0 0]) (cs2 := [.int .i64 0, .int .i64 0]) rfl rfl rfl rfl (sCls) (sCls) agg_cfg size_cfg agg_fault size_fault ?_
  exact ⟨_, rfl, CfgV.mono (Nat.le_add_right _ 2) (CfgV.keptX (X := [w.heap.size, w.heap.size + 1]) V4 (by repeat' (first | (with_reducible exact Kept.refl _ _) | (with_reducible refine Kept.set ?_ (by simp) _))) (by simp)), by exact sBel⟩
end Go.Proofs.YthmhdaefkhcenaaGreatDoor
