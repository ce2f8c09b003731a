/- Lemmas for it; no condition: TPts2. -/
import Derived.Test.YthmhdaefkhcenaaGreatDoorZ08
import Derived.Test.YthmhdaefkhcenaaGreatDoorZ52
set_option linter.unusedVariables false
set_option linter.unusedSimpArgs false
namespace Go.Proofs.YthmhdaefkhcenaaGreatDoor
open Go.RowKit Go.Lib Go.MapKept

theorem DeskS.call {w w' : World} {k d md f g l bb m ib gb lo jb jc qb qc K : Nat} {rate sid ds : Int} {n r t : Nat} {R : List Ref} {ks : List Nat} (h : DeskS w k d md f g l bb m ib gb lo rate jb jc qb qc K sid ds n r t R ks) (hb : Below w.heap.size w w') : DeskS w' k d md f g l bb m ib gb lo rate jb jc qb qc K sid ds n r t R ks :=
  ⟨h.desk.call hb, h.disk.call hb, h.log.call hb, h.cfg.call hb h.bk.lt.2.2.2.2.2, h.led.call hb, h.bk.call hb, h.fg, h.mm, h.low⟩
theorem PSt.call {w wr wr' : World} {d md f g q a r t n i : Nat} {R : List Ref} {ks : List Nat} {k l bb m ib gb lo jb jc qb qc K nn F : Nat} (h : PSt w wr d md f g q a r t n i R ks k l bb m ib gb lo jb jc qb qc K nn F) (hb : Below wr.heap.size wr wr') : PSt w wr' d md f g q a r t n i R ks k l bb m ib gb lo jb jc qb qc K nn F :=
  ⟨h.desk.call hb, h.cfg.call hb, h.ok, h.days, h.few, h.lines.call hb, h.qi, h.qg, bel_call h.bel hb, h.low, h.done⟩
theorem PSt.apart {w wr : World} {d md f g q a r t n i : Nat} {R : List Ref} {ks : List Nat} {k l bb m ib gb lo jb jc qb qc K nn F : Nat} (h : PSt w wr d md f g q a r t n i R ks k l bb m ib gb lo jb jc qb qc K nn F) : q ≠ d ∧ q ≠ md ∧ q ≠ f ∧ q ≠ g ∧ q ≠ l ∧ q ≠ bb ∧ q ≠ m := by
  have hq := h.lines
  obtain ⟨⟨st, hd⟩, hm⟩ := h.desk.disk
  obtain ⟨_, _, hl⟩ := h.desk.led
  obtain ⟨_, ⟨_, _, _, _, _, _, b1, _, b3, _⟩, _⟩ := h.desk.bk
  have fl : ∀ f xs, File wr f xs → q ≠ f := fun f xs hF => by
    obtain ⟨sv, h1, h2⟩ := hF
    refine has_ne_block h1 hq ?_
    rcases h2 with ⟨rfl, _⟩ | ⟨_, _, rfl, _⟩ <;> simp
  exact ⟨has_ne_block hd hq (by simp), Has.ne_map (v := .int .i64 0) hq hm, fl _ _ h.desk.log, fl _ _ (h.desk.cfg.file h.desk.bk.lt.2.2.2.2.2), has_ne_block hl hq (by simp), has_ne_block b1 hq (by simp), Has.ne_map (v := .int .i64 0) hq b3⟩
set_option maxRecDepth 100000 in
set_option maxHeartbeats 8000000 in
theorem parts_main (a r : Nat) (ha0 : 1 ≤ a) (ha : a ≤ 1073741824) (hr : r ≤ 1000000) (A : Option Addr) (n c : Nat) (ps : List Int) (hn8 : n ≤ 8) (w : World) (hP : Shows w w.heap.size 1 A n (I64 ps)) (hpb : ∀ x ∈ ps, -9223372036854775808 ≤ x ∧ x ≤ 9223372036854775807) :
    Calls Tryz.prog 3 #[.int .i64 a, .int .i64 r, .slice A n c] w fun e w' => e = .returned (.bool true) ∧ Below w.heap.size w w' := by
  have hdn := deskp_ne
  have t0 : ¬ (a : Int) < 1 := by omega
  have t1 : ¬ (1073741824 : Int) < a := by omega
  have t2 : ¬ (r : Int) < 0 := by omega
  have t3 : ¬ (1000000 : Int) < r := by omega
  have t4 : ¬ (8 : Int) < n := by omega
  go_enter Tryz.func3, Tryz.ntmps3
  go_wp2_with fail
  refine (awake_c w).mono ?_
  rintro e w0 ⟨rfl, hb0⟩
  go_wp2_with fail
  refine (new_disk w0).mono ?_
  rintro e w1 ⟨d, md, rfl, hd, hm, hdm, D1, M1, hb1⟩
  have hD1 : DiskAt w1 d md [] 0 := ⟨⟨0, D1⟩, M1⟩
  go_wp2_with fail
  refine (box_c w1).mono ?_
  rintro e w2 ⟨rb, b, rfl, hrb, hbx, _, _, hb2⟩
  go_wp2_with fail
  refine (plain_c rb b 4 (r : Int) w2 hrb hbx).mono ?_
  rintro e w3 ⟨v, rfl, hv, hb3⟩
  have bel3 := bel_call (bel_call (bel_call hb0 hb1) hb2) hb3
  have hD3 := (hD1.call hb2).call hb3
  go_wp2_with fail
  refine (opened_c d md (r : Int) (by omega) (by omega) v w3 hD3 hv).mono ?_
  rintro e w4 ⟨k, l, f, g, bb, m, jb, jc, qb, qc, K, E, F, z, lo1, rfl, ⟨z1, z2, z3, z4, z5, z6, z7⟩, ⟨y1, y2, y3, y4, y5⟩, ⟨hFK, hEg, hE1⟩, K4, D4, F4, G4, L4, B4, M4, C4, T4, kp4⟩
  have zd := hD3.lt
  have s3 := bel3.size
  have s0 := hb0.size
  have bel4 : Below w.heap.size w w4 := bel3.trans (kp4.below (by simp; omega) s3)
  have hcl := T4.lt
  go_wp2_with fail
  refine (order_c a w4).mono ?_
  rintro e w5 ⟨lb, rfl, hO, hlb, hb5⟩
  go_wp2_with fail
  refine (commit_c k d md f g l bb m jb jc qb qc K E F z lo1 lb 1 a r (by omega) (by omega) (by omega) (by omega) (by omega) w5 (K4.call hb5) (D4.call hb5) (F4.call hb5) (G4.keptX (Kept.of_below (X := []) hb5) (by simp) (by simp)) (L4.call hb5) (B4.call hb5) (M4.call hb5) (C4.call hb5) (T4.keptX (Kept.of_below (X := []) hb5) (by simp)) (by omega) ⟨by omega, by omega, by omega, by omega, by omega, by omega, by omega⟩ hFK hEg hE1 hO (by omega)).mono ?_
  rintro e w6 ⟨q, c', ib, gb, lo, rfl, hc, hq, hq0, hqi, hqg, hlo, hS, hC, kp6⟩
  have s5 := hb5.size
  have s4 := bel4.size
  have bel6 : Below w.heap.size w w6 := (bel_call bel4 hb5).trans (kp6.below (by
    intro h hh
    simp only [List.mem_append] at hh
    rcases hh with hh | hh
    · have := mem_range hh
      omega
    · simp at hh
      omega) (by omega))
  obtain ⟨t, ht⟩ : ∃ t, taxF a r = t := ⟨_, rfl⟩
  have htl := taxF_le a r hr
  rw [ht] at hq hS htl
  have St : PSt w w6 d md f g q a r t n 0 [] [] k l bb m ib gb lo jb jc qb qc K z F := ⟨hS, hC, ⟨by omega, by omega, by omega, by omega, by omega, by omega, by omega, by omega, by simp, by simp, by simp [backs], by simp⟩, by simp, by simp, hq, hqi, hqg, bel6, ⟨by omega, by omega, by omega, by omega, by omega, by omega, by omega, by omega⟩, by omega⟩
  have hqp := hq
  unfold tlV at hqp
  have xl := hqp.lt; have x0 := hqp.cell (j := 0) rfl; have x1 := hqp.cell (j := 1) rfl; have x2 := hqp.cell (j := 2) rfl; have x3 := hqp.cell (j := 3) rfl; have x4 := hqp.cell (j := 4) rfl; have x5 := hqp.cell (j := 5) rfl
  clear hq hS hC kp6 hqi hqg hlo ht D1 M1 hD1 hrb hbx hv hD3 K4 D4 F4 G4 L4 B4 M4 C4 T4 kp4 hO
  go_wp2_with fail
  go_loopw [9, 12, 13, 14] (fun s9 s12 s13 s14 wr => ∃ (i : Nat) (R : List Ref) (ks : List Nat) (k l bb m ib gb lo jb jc qb qc K nn F : Nat), i ≤ n + 1 ∧ s9 = .pointer (some ⟨k, 0, none⟩) ∧ s12 = .int .i64 (a - backs R : Nat) ∧ s13 = .int .i64 (evenF (t * backs R) a : Nat) ∧ s14 = .int .i64 i ∧ PSt w wr d md f g q a r t n i R ks k l bb m ib gb lo jb jc qb qc K nn F) (fun _ _ _ s14 _ => n + 1 - (intOf s14).toNat)
  case atStart => exact ⟨0, [], [], k, l, bb, m, ib, gb, lo, jb, jc, qb, qc, K, z, F, by omega, rfl, by simp [backs], by simp [backs, even_zero a (by omega)], rfl, St⟩
  case round =>
    clear St x0 x1 x2 x3 x4 x5 xl hqp
    obtain ⟨i, R, ks, k, l, bb, m, ib, gb, lo, jb, jc, qb, qc, K, nn, F, hi, rfl, rfl, rfl, rfl, st⟩ := hrel
    obtain ⟨lf, hlf⟩ : ∃ lf, a - backs R = lf := ⟨_, rfl⟩
    obtain ⟨tx, htx⟩ : ∃ tx, evenF (t * backs R) a = tx := ⟨_, rfl⟩
    have hsum := st.ok.sum
    have hlfb : lf ≤ 1073741824 := by omega
    have htxb : tx ≤ 1073741824 := by rw [← htx]; exact Nat.le_trans (even_tle t a _ (by omega) hsum) (by omega)
    rw [hlf, htx]
    have Hlf := Lib.hid hlf
    have Htx := Lib.hid htx
    have Hst := Lib.hid st
    by_cases hin : i ≤ n
    · have q0 : (i : Int) ≤ (n : Int) := by omega
      by_cases hlt : i < n
      · have q1 : (i : Int) < (n : Int) := by omega
        have q2 : (0 : Int) ≤ (i : Int) := by omega
        obtain ⟨pb, off, rfl, hpB, hpc⟩ := (hP.call st.bel (Nat.le_refl _)).at_ (by omega)
        have hpl : ps.length = n := by simpa [I64] using hP.len
        obtain ⟨pv, hpv⟩ : ∃ pv, ps[i]? = some pv := ⟨ps[i]'(by omega), List.getElem?_eq_getElem _⟩
        have pc : wr.cell? ⟨pb, off + i, none⟩ = some (.int .i64 pv) := by
          rw [hpc i (by simp [I64]; omega)]
          simp [I64, List.getD, hpv]
        have hpk := pick_c pv (lf + 1) (by omega) (by omega) (hpb pv (List.mem_of_getElem? hpv)) wr
        rw [show ((lf + 1 : Nat) : Int) = (lf : Int) + 1 by omega] at hpk
        clear hpc hpv hlf htx st
        go_wp2_with fail
        refine hpk.mono ?_
        rintro e v1 ⟨⟨x, hx, rfl⟩, hbv1⟩
        have st1 := Hst.out.call hbv1
        clear hpk pc hpl hpB
        by_cases hx0 : x = 0
        · have e0 : (x : Int) = 0 := by omega
          clear hx0 hx
          go_wp2_with fail
          go_roundw
          case rel => exact ⟨i + 1, R, ks, k, l, bb, m, ib, gb, lo, jb, jc, qb, qc, K, nn, F, by omega, rfl, by rw [Hlf.out], by rw [Htx.out], by go_num, ⟨st1.desk, st1.cfg, st1.ok, fun y hy => by have := st1.days y hy; omega, by have := st1.few; omega, st1.lines, st1.qi, st1.qg, st1.bel, st1.low, by omega⟩⟩
          case measure => simp [intOf]; omega
        · have hxa : backs R + x ≤ a := by have := Hlf.out; omega
          have hlf := Hlf.out
          have htx := Htx.out
          have hA1 := st1
          have hlow := hA1.low
          have hap := hA1.apart
          have hRx : RefsOk 1 10 a r t (R ++ [(⟨2 + (i : Int), 10 + (i : Int), x⟩ : Ref)]) := by
            obtain ⟨p1, p2, p3, p4, p5, p6, p7, p8, p9, p10, p11, p12⟩ := hA1.ok
            have hdays := hA1.days
            have hfw := hA1.few
            refine ⟨p1, p2, p3, p4, p5, p6, p7, p8, ?_, ?_, ?_, by simp; omega⟩
            · intro y hy
              rcases List.mem_append.1 hy with hy | hy
              · exact p9 y hy
              · simp only [List.mem_singleton] at hy
                subst hy
                exact ⟨by dsimp only; omega, by dsimp only; omega, by dsimp only; omega, by dsimp only; omega, hx0⟩
            · rw [List.map_append, ← List.cons_append]
              refine List.nodup_append.2 ⟨p10, by simp, ?_⟩
              rintro u hu v hv rfl
              simp at hv
              subst hv
              rcases List.mem_cons.1 hu with hu | hu
              · omega
              · obtain ⟨y, hy, e⟩ := List.mem_map.1 hu
                have := (hdays y hy).2
                omega
            · rw [backs_snoc]
              exact hxa
          have hrl := recs_len hA1.ok
          have hrl2 := recs_len hRx
          have hfw := hA1.few
          obtain ⟨bf, hbf⟩ : ∃ bf, backF t a (backs R) (backs R + x) = bf := ⟨_, rfl⟩
          have hbc := back_cast t a (backs R) (backs R + x) (by omega)
          rw [hbf] at hbc
          obtain ⟨tx2, htx2⟩ : ∃ tx2, evenF (t * (backs R + x)) a = tx2 := ⟨_, rfl⟩
          obtain ⟨lf2, hlf2⟩ : ∃ lf2, a - (backs R + x) = lf2 := ⟨_, rfl⟩
          rw [htx2, htx] at hbc
          have hlf2b : lf2 ≤ 1073741824 := by omega
          have w1e : (lf : Int) - (x : Int) = (lf2 : Int) := by omega
          have w2e : (tx : Int) + (bf : Int) = (tx2 : Int) := by omega
          have c0e : ¬ (bf : Int) < 0 := by omega
          have c1e : ¬ (x : Int) = 0 := by omega
          have htl2 : tx2 ≤ t := by rw [← htx2]; exact even_tle t a _ (by omega) hxa
          have hbsum : backs (R ++ [(⟨2 + (i : Int), 10 + (i : Int), x⟩ : Ref)]) = backs R + x := backs_snoc _ _
          have Hlf2 := Lib.hid hlf2
          have Htx2 := Lib.hid htx2
          have Hbs := Lib.hid hbsum
          have Hbf := Lib.hid hbf
          clear hlf2 htx2 hbc hbsum hbf
          go_wp2_with fail
          have bs1 : Below v1.heap.size v1 (v1.alloc (.cells #[.int .i64 x] 3)) := bel_alloc (Below.refl _ _) _
          refine (refund_c k d md f g l bb m ib gb lo (r : Int) jb jc qb qc K 1 10 a r t R ks (2 + (i : Int)) (10 + (i : Int)) _ x hA1.ok hRx (by omega) _ (hA1.desk.call bs1) (Has.of_block (btop (by simp)))).mono ?_
          rintro e u2 ⟨q2, c2, ib2, kr, rfl, hq2, hq20, hib2, hS2, kpu2⟩
          rw [Hbf.out] at hq2
          have hq2p := hq2
          unfold tlV at hq2p
          have yl := hq2p.lt; have y0 := hq2p.cell (j := 0) rfl; have y1 := hq2p.cell (j := 1) rfl; have y2 := hq2p.cell (j := 2) rfl; have y3 := hq2p.cell (j := 3) rfl; have y4 := hq2p.cell (j := 4) rfl; have y5 := hq2p.cell (j := 5) rfl
          go_wp2_with fail
          have bs2 : Below u2.heap.size u2 (u2.alloc (.cells #[.int .i64 ((lf2 : Int) + 1)] 3)) := bel_alloc (Below.refl _ _) _
          refine (refund_much k d md f g l bb m ib2 gb lo (r : Int) jb jc qb qc K 1 10 a r t _ _ (90 + (i : Int)) (10 + (i : Int)) u2.heap.size (lf2 + 1) hRx (by omega) (by omega) (by omega) (by omega) (by have := Hlf2.out; omega) (by rw [Hbs.out]; have := Hlf2.out; omega) ?_ (by omega) _ (hS2.call bs2) (by rw [show ((lf2 + 1 : Nat) : Int) = (lf2 : Int) + 1 by omega]; exact Has.of_block (btop rfl))).mono ?_
          · intro hm9
            rcases List.mem_cons.1 hm9 with hm9 | hm9
            · omega
            · obtain ⟨y, hy, e⟩ := List.mem_map.1 hm9
              rcases List.mem_append.1 hy with hy | hy
              · have := (hA1.days y hy).2
                omega
              · simp only [List.mem_singleton] at hy
                subst hy
                dsimp only at e
                omega
          rintro e u3 ⟨rfl, hbu3⟩
          have bel3u := bel_call bs2 hbu3
          have hS3 := hS2.call bel3u
          clear y0 y1 y2 y3 y4 y5 yl hq2p
          go_wp2_with fail
          have bs3 : Below u3.heap.size u3 (u3.alloc (.cells #[.int .i64 i, .int .i64 i, .int .i64 i] 3)) := bel_alloc (Below.refl _ _) _
          have hS4 := hS3.call bs3
          obtain ⟨⟨sst, hDk⟩, hMk⟩ := hS4.disk
          have hlow2 := hS4.bk.lt
          have hcl9 := cfg_len (r : Int) ⟨by omega, by omega⟩
          refine (crash_fs3 d md f g _ _ i sst _ _ _ hDk hMk hS4.log (hS4.cfg.file hlow2.2.2.2.2.2) (Has.of_block (btop rfl)) hS4.fg ?_ (by simp at hrl2; omega) (cfg_pos _) (by omega)).mono ?_
          · rw [recsOf, framesL_cons, List.length_append, frameL_len]
            omega
          rintro e u4 ⟨rfl, D5, M5, F5, G5, kpu4⟩
          go_wp2_with fail
          refine (open_again d md f g (r : Int) (by omega) (by omega) 1 10 a r t _ hRx u4 ⟨⟨_, D5⟩, M5⟩ F5 G5 hS4.fg (by simp at hrl2; omega)).mono ?_
          rintro e u5 ⟨k', l', bb', m', ib', gb', lo', jb', jc', qb', qc', K', nn', F', ks', rfl, ⟨g1, g2, g3, g4⟩, ⟨g5, g6, g7⟩, hC6, hS6, kpu5⟩
          have sz1 := bs1.size
          have sz2 := kpu2.size
          have sz3 := bel3u.size
          have sz4 := bs3.size
          have sz5 := kpu4.size
          have szb := hA1.bel.size
          have hlo3 := hA1.desk.bk.lt
          have hgl3 := hA1.desk.bk.glo
          have hql := hA1.lines.lt
          have hq2l : Has u2 q (tlV a r t) := (hA1.lines.call bs1).keptX kpu2 (by simp; exact ⟨hap.1, hap.2.1, hap.2.2.1, hap.2.2.2.2.1, hap.2.2.2.2.2.1, hap.2.2.2.2.2.2, hA1.qi, hA1.qg⟩)
          have hq4l : Has u4 q (tlV a r t) := ((hq2l.call bel3u).call bs3).keptX kpu4 (by simp; exact ⟨hap.1, hap.2.2.1, hap.2.2.2.1⟩)
          have hq5l : Has u5 q (tlV a r t) := hq4l.keptX kpu5 (by simp; exact ⟨hap.1, hap.2.2.1⟩)
          have belA : Below w.heap.size w u5 := ((((bel_call hA1.bel bs1).trans (kpu2.below (by simp; omega) (by omega))).trans (bel3u.mono (by omega))).trans (bs3.mono (by omega))).trans ((kpu4.below (by simp; omega) (by omega)).trans (kpu5.below (by simp; omega) (by omega)))
          have hgl6 := hS6.bk.glo
          go_wp2_with fail
          go_roundw
          case rel => exact ⟨i + 1, R ++ [⟨2 + (i : Int), 10 + (i : Int), x⟩], ks', k', l', bb', m', ib', gb', lo', jb', jc', qb', qc', K', nn', F', by omega, rfl, by rw [Hbs.out, Hlf2.out], by rw [Hbs.out, Htx2.out], by go_num, ⟨hS6, hC6, hRx, by
              intro y hy
              rcases List.mem_append.1 hy with hy | hy
              · have := hA1.days y hy
                omega
              · simp only [List.mem_singleton] at hy
                subst hy
                dsimp only
                omega, by simp; omega, hq5l, by omega, by omega, belA, ⟨by omega, by omega, by omega, by omega, by omega, by omega, by omega, by omega⟩, by omega⟩⟩
          case measure => simp [intOf]; omega
      · have hie : n ≤ i := by omega
        have q1 : ¬ (i : Int) < (n : Int) := by omega
        clear hlf htx st
        by_cases hx0 : lf = 0
        · have Hx0 := Lib.hid hx0
          have st1 := Hst.out
          have q9 : (lf : Int) = 0 := by omega
          go_wp2_with fail
          go_roundw
          case rel => exact ⟨i + 1, R, ks, k, l, bb, m, ib, gb, lo, jb, jc, qb, qc, K, nn, F, by omega, rfl, by rw [Hlf.out], by rw [Htx.out], by go_num, ⟨st1.desk, st1.cfg, st1.ok, fun y hy => by have := st1.days y hy; omega, by have := st1.few; omega, st1.lines, st1.qi, st1.qg, st1.bel, st1.low, by intro _; have := Hlf.out; have := Hx0.out; omega⟩⟩
          case measure => simp [intOf]; omega
        · obtain ⟨x, hxe⟩ : ∃ x, x = lf := ⟨_, rfl⟩
          rw [← hxe] at hx0
          have hxa : backs R + x ≤ a := by have := Hlf.out; omega
          have hlf := Hlf.out
          have htx := Htx.out
          subst hxe
          have hA1 := Hst.out
          have hlow := hA1.low
          have hap := hA1.apart
          have hRx : RefsOk 1 10 a r t (R ++ [(⟨2 + (i : Int), 10 + (i : Int), x⟩ : Ref)]) := by
            obtain ⟨p1, p2, p3, p4, p5, p6, p7, p8, p9, p10, p11, p12⟩ := hA1.ok
            have hdays := hA1.days
            have hfw := hA1.few
            refine ⟨p1, p2, p3, p4, p5, p6, p7, p8, ?_, ?_, ?_, by simp; omega⟩
            · intro y hy
              rcases List.mem_append.1 hy with hy | hy
              · exact p9 y hy
              · simp only [List.mem_singleton] at hy
                subst hy
                exact ⟨by dsimp only; omega, by dsimp only; omega, by dsimp only; omega, by dsimp only; omega, hx0⟩
            · rw [List.map_append, ← List.cons_append]
              refine List.nodup_append.2 ⟨p10, by simp, ?_⟩
              rintro u hu v hv rfl
              simp at hv
              subst hv
              rcases List.mem_cons.1 hu with hu | hu
              · omega
              · obtain ⟨y, hy, e⟩ := List.mem_map.1 hu
                have := (hdays y hy).2
                omega
            · rw [backs_snoc]
              exact hxa
          have hrl := recs_len hA1.ok
          have hrl2 := recs_len hRx
          have hfw := hA1.few
          obtain ⟨bf, hbf⟩ : ∃ bf, backF t a (backs R) (backs R + x) = bf := ⟨_, rfl⟩
          have hbc := back_cast t a (backs R) (backs R + x) (by omega)
          rw [hbf] at hbc
          obtain ⟨tx2, htx2⟩ : ∃ tx2, evenF (t * (backs R + x)) a = tx2 := ⟨_, rfl⟩
          have hlf2 : a - (backs R + x) = 0 := by omega
          rw [htx2, htx] at hbc
          have w2e : (tx : Int) + (bf : Int) = (tx2 : Int) := by omega
          have c0e : ¬ (bf : Int) < 0 := by omega
          have c1e : ¬ (x : Int) = 0 := by omega
          have htl2 : tx2 ≤ t := by rw [← htx2]; exact even_tle t a _ (by omega) hxa
          have hbsum : backs (R ++ [(⟨2 + (i : Int), 10 + (i : Int), x⟩ : Ref)]) = backs R + x := backs_snoc _ _
          have Hlf2 := Lib.hid hlf2
          have Htx2 := Lib.hid htx2
          have Hbs := Lib.hid hbsum
          have Hbf := Lib.hid hbf
          clear hlf2 htx2 hbc hbsum hbf
          go_wp2_with fail
          have bs1 : Below wr.heap.size wr (wr.alloc (.cells #[.int .i64 x] 3)) := bel_alloc (Below.refl _ _) _
          refine (refund_c k d md f g l bb m ib gb lo (r : Int) jb jc qb qc K 1 10 a r t R ks (2 + (i : Int)) (10 + (i : Int)) _ x hA1.ok hRx (by omega) _ (hA1.desk.call bs1) (Has.of_block (btop (by simp)))).mono ?_
          rintro e u2 ⟨q2, c2, ib2, kr, rfl, hq2, hq20, hib2, hS2, kpu2⟩
          rw [Hbf.out] at hq2
          have hq2p := hq2
          unfold tlV at hq2p
          have yl := hq2p.lt; have y0 := hq2p.cell (j := 0) rfl; have y1 := hq2p.cell (j := 1) rfl; have y2 := hq2p.cell (j := 2) rfl; have y3 := hq2p.cell (j := 3) rfl; have y4 := hq2p.cell (j := 4) rfl; have y5 := hq2p.cell (j := 5) rfl
          go_wp2_with fail
          have bs2 : Below u2.heap.size u2 (u2.alloc (.cells #[.int .i64 1] 3)) := bel_alloc (Below.refl _ _) _
          refine (refund_much k d md f g l bb m ib2 gb lo (r : Int) jb jc qb qc K 1 10 a r t _ _ (90 + (i : Int)) (10 + (i : Int)) u2.heap.size 1 hRx (by omega) (by omega) (by omega) (by omega) (by have := Hlf2.out; omega) (by rw [Hbs.out]; have := Hlf2.out; omega) ?_ (by omega) _ (hS2.call bs2) (by show Has _ _ [.int .i64 1]; exact Has.of_block (btop rfl))).mono ?_
          · intro hm9
            rcases List.mem_cons.1 hm9 with hm9 | hm9
            · omega
            · obtain ⟨y, hy, e⟩ := List.mem_map.1 hm9
              rcases List.mem_append.1 hy with hy | hy
              · have := (hA1.days y hy).2
                omega
              · simp only [List.mem_singleton] at hy
                subst hy
                dsimp only at e
                omega
          rintro e u3 ⟨rfl, hbu3⟩
          have bel3u := bel_call bs2 hbu3
          have hS3 := hS2.call bel3u
          clear y0 y1 y2 y3 y4 y5 yl hq2p
          go_wp2_with fail
          have bs3 : Below u3.heap.size u3 (u3.alloc (.cells #[.int .i64 i, .int .i64 i, .int .i64 i] 3)) := bel_alloc (Below.refl _ _) _
          have hS4 := hS3.call bs3
          obtain ⟨⟨sst, hDk⟩, hMk⟩ := hS4.disk
          have hlow2 := hS4.bk.lt
          have hcl9 := cfg_len (r : Int) ⟨by omega, by omega⟩
          refine (crash_fs3 d md f g _ _ i sst _ _ _ hDk hMk hS4.log (hS4.cfg.file hlow2.2.2.2.2.2) (Has.of_block (btop rfl)) hS4.fg ?_ (by simp at hrl2; omega) (cfg_pos _) (by omega)).mono ?_
          · rw [recsOf, framesL_cons, List.length_append, frameL_len]
            omega
          rintro e u4 ⟨rfl, D5, M5, F5, G5, kpu4⟩
          go_wp2_with fail
          refine (open_again d md f g (r : Int) (by omega) (by omega) 1 10 a r t _ hRx u4 ⟨⟨_, D5⟩, M5⟩ F5 G5 hS4.fg (by simp at hrl2; omega)).mono ?_
          rintro e u5 ⟨k', l', bb', m', ib', gb', lo', jb', jc', qb', qc', K', nn', F', ks', rfl, ⟨g1, g2, g3, g4⟩, ⟨g5, g6, g7⟩, hC6, hS6, kpu5⟩
          have sz1 := bs1.size
          have sz2 := kpu2.size
          have sz3 := bel3u.size
          have sz4 := bs3.size
          have sz5 := kpu4.size
          have szb := hA1.bel.size
          have hlo3 := hA1.desk.bk.lt
          have hgl3 := hA1.desk.bk.glo
          have hql := hA1.lines.lt
          have hq2l : Has u2 q (tlV a r t) := (hA1.lines.call bs1).keptX kpu2 (by simp; exact ⟨hap.1, hap.2.1, hap.2.2.1, hap.2.2.2.2.1, hap.2.2.2.2.2.1, hap.2.2.2.2.2.2, hA1.qi, hA1.qg⟩)
          have hq4l : Has u4 q (tlV a r t) := ((hq2l.call bel3u).call bs3).keptX kpu4 (by simp; exact ⟨hap.1, hap.2.2.1, hap.2.2.2.1⟩)
          have hq5l : Has u5 q (tlV a r t) := hq4l.keptX kpu5 (by simp; exact ⟨hap.1, hap.2.2.1⟩)
          have belA : Below w.heap.size w u5 := ((((bel_call hA1.bel bs1).trans (kpu2.below (by simp; omega) (by omega))).trans (bel3u.mono (by omega))).trans (bs3.mono (by omega))).trans ((kpu4.below (by simp; omega) (by omega)).trans (kpu5.below (by simp; omega) (by omega)))
          have hgl6 := hS6.bk.glo
          go_wp2_with fail
          go_roundw
          case rel => exact ⟨i + 1, R ++ [⟨2 + (i : Int), 10 + (i : Int), x⟩], ks', k', l', bb', m', ib', gb', lo', jb', jc', qb', qc', K', nn', F', by omega, rfl, by rw [Hbs.out, Hlf2.out]; first | done | rfl, by rw [Hbs.out, Htx2.out], by go_num, ⟨hS6, hC6, hRx, by
              intro y hy
              rcases List.mem_append.1 hy with hy | hy
              · have := hA1.days y hy
                omega
              · simp only [List.mem_singleton] at hy
                subst hy
                dsimp only
                omega, by simp; omega, hq5l, by omega, by omega, belA, ⟨by omega, by omega, by omega, by omega, by omega, by omega, by omega, by omega⟩, by intro _; rw [Hbs.out]; omega⟩⟩
          case measure => simp [intOf]; omega
    · have hie : i = n + 1 := by omega
      have hdone := st.done (by omega)
      have q0 : ¬ (i : Int) ≤ (n : Int) := by omega
      have htt : tx = t := by rw [← htx, hdone, Nat.mul_comm]; exact even_exact t a (by omega)
      have e0 : (lf : Int) = 0 := by omega
      have hrc : repC a t R = [.int .i64 7, .int .i64 1, .int .i64 0, .int .i64 0, .int .i64 0, .int .i64 0, .int .i64 1, .int .i64 (R.length : Nat)] := by
        have h1 : evenF (t * a) a = t := by rw [Nat.mul_comm]; exact even_exact t a (by omega)
        unfold repC
        rw [hdone, h1]
        simp
      have hdays : ∀ y ∈ R, y.day ≤ 18 := fun y hy => by have := (st.days y hy).1; omega
      have hDk := st.desk.desk
      have hBk := st.desk.bk
      have hOk := st.ok
      have hcf := st.cfg
      have hql := st.lines
      have hbw := st.bel
      have Hrc := Lib.hid hrc
      obtain ⟨jb', jc', qb', qc', rb', rc', db', dc', b', cc', e9, hJ, _⟩ := hcf
      injection e9 with e9
      injection e9 with e9
      simp only [List.cons.injEq, Value.slice.injEq, Option.some.injEq, Addr.mk.injEq, and_true, true_and] at e9
      have hJ2 : Has wr jb (juC rb' rc') := by rw [e9.1.1]; exact hJ
      clear e9 hJ hlf htx Htx st hdone hrc hsum hP hpb
      subst htt
      go_wp2_with fail
      refine (report_c k bb m ib gb lo l K 1 10 a r tx R ks jb jc rb' rc' _ _ _ _ _ _ _ hOk (by omega) ⟨by omega, hdays⟩ wr hDk hBk hJ2).mono ?_
      rintro e w8 ⟨rfl, hb8⟩
      rw [Hrc.out]
      have hq8 := hql.call hb8
      unfold tlV at hq8
      have yl := hq8.lt; have y0 := hq8.cell (j := 0) rfl; have y1 := hq8.cell (j := 1) rfl; have y2 := hq8.cell (j := 2) rfl; have y3 := hq8.cell (j := 3) rfl; have y4 := hq8.cell (j := 4) rfl; have y5 := hq8.cell (j := 5) rfl
      clear Hlf Hst hDk hBk hOk hJ2 hdays Hrc
      go_wp2_with fail
      go_returns
      exact ⟨by first | rfl | simp, bel_call hbw (bel_call hb8 (by exact sBel))⟩
end Go.Proofs.YthmhdaefkhcenaaGreatDoor
