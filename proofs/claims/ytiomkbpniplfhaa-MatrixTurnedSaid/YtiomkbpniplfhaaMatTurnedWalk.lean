/- The walk of the statement 'MatrixTurned'. -/
import Derived.Test.YtiomkbpniplfhaaMatSort
import Derived.Test.YtiomkbpniplfhaaMatLaterPlain
import Derived.Test.YtiomkbpniplfhaaMatPick
import Derived.Deep.CutBlock
import Derived.Sort.WalkB12
namespace Go.Proofs.Ytiomkbpniplfhaa
open Go.Shelf Go.RowKit Go.Lib Go.Sort

theorem one_take {l : List S6} {i : Nat} {x : S6} (h : l[i]? = some x) : (l.drop i).take 1 = [x] := by
  rw [Mat.drop_at h]; rfl
set_option maxRecDepth 100000 in
set_option maxHeartbeats 4000000 in
theorem mturned_early (A : Option Addr) (n c : Nat) (A1 : Option Addr) (n1 c1 : Nat) (jj q d : Int) (w : World) (h : 60 < n ∨ 100 < n1) :
    Calls Try.prog 9 #[.slice A n c, .slice A1 n1 c1, .int .i64 jj, .int .i64 q, .int .i64 d] w fun e w' => e = .returned (.bool true) ∧ Below w.heap.size w w' := by
  by_cases h60 : 60 < n
  · have h60z : (60 : Int) < (n : Int) := by omega
    clear h
    go_enter Try.func9, Try.ntmps9
    go_wp2_with fail
    refine (awake_true _).mono ?_
    rintro e w1 ⟨rfl, hb1⟩
    go_wp2_with fail
    go_ret
    exact ⟨rfl, hb1⟩
  · have h60z : ¬ (60 : Int) < (n : Int) := by omega
    have h100 : (100 : Int) < (n1 : Int) := by omega
    clear h
    go_enter Try.func9, Try.ntmps9
    go_wp2_with fail
    refine (awake_true _).mono ?_
    rintro e w1 ⟨rfl, hb1⟩
    go_wp2_with fail
    go_ret
    exact ⟨rfl, hb1⟩
set_option maxRecDepth 100000 in
set_option maxHeartbeats 32000000 in
theorem mturned_main (A : Option Addr) (n c : Nat) (l : List S6) (A1 : Option Addr) (n1 c1 : Nat) (xs : List Int) (jj q d : Int) (w : World) (ha : Shows w w.heap.size 6 A n (RC l)) (hnc : n ≤ c) (hx : Shows w w.heap.size 1 A1 n1 (I64 xs)) (hxs : ∀ x ∈ xs, -9223372036854775808 ≤ x ∧ x ≤ 9223372036854775807) (h60 : ¬ 60 < n) (h100 : ¬ 100 < n1) :
    Calls Try.prog 9 #[.slice A n c, .slice A1 n1 c1, .int .i64 jj, .int .i64 q, .int .i64 d] w fun e w' => e = .returned (.bool true) ∧ Below w.heap.size w w' := by
  have hB : w.heap.size ≤ w.heap.size := Nat.le_refl _
  have Hl := Lib.hid ha.num6
  have Hxl : Hid (xs.length = n1) := by
    have := hx.len
    show xs.length = n1
    simpa [I64] using this
  have Hxs := Lib.hid hxs
  have h60z : ¬ (60 : Int) < (n : Int) := by omega
  have h100z : ¬ (100 : Int) < (n1 : Int) := by omega
  have hmx : n ≤ maxLen := by unfold maxLen; omega
  clear hxs
  go_enter Try.func9, Try.ntmps9
  go_wp2_with fail
  refine (awake_true _).mono ?_
  rintro e w1 ⟨rfl, hb1⟩
  go_upto_block 0 with (fail)
  go_cut [11] (fun s11 wx => s11 = .bool true ∧ Hid (∀ y ∈ l, Mat.one y = 0) ∧ Hid (Mat.Apart l) ∧ Below w.heap.size w wx)
  case first =>
    go_wp2_with fail
    go_loopw [12] (fun s12 wr => ∃ i : Nat, s12 = .int .i64 i ∧ i ≤ n ∧ Hid (∀ t y, l[t]? = some y → t < i → Mat.one y = 0) ∧ Hid (∀ s t y z, l[s]? = some y → l[t]? = some z → s < t → t < i → ¬ Mat.Same y z) ∧ Below w.heap.size w wr) (fun i _ => n - (intOf i).toNat)
    case atStart => exact ⟨0, rfl, by omega, fun t y _ h => by omega, fun s t y z _ _ _ h => by omega, hb1⟩
    case round =>
      obtain ⟨i, rfl, hin, hone, hap, hbel⟩ := hrel
      obtain ⟨w2, rfl⟩ : ∃ w2, w2 = wr := ⟨_, rfl⟩
      by_cases hlt : i < n
      · obtain ⟨x, hxe⟩ : ∃ x, l[i]? = some x := ⟨l[i]'(by rw [Hl.out]; exact hlt), List.getElem?_eq_getElem _⟩
        have Hxe := Lib.hid hxe
        obtain ⟨A2, hcut0, hsh0⟩ := cut_mid (P := Try.prog) 6 Try.underlying22 size_rule A n c i 1 (by omega) hnc
        have hcutM : ∀ w, (Instr.slice 22 (.slice A n c) (some (.int .i64 (i : Int))) (some (.int .i64 ((i : Int) + 1))) none).run Try.prog w = .ok (.slice A2 1 (c - i)) w := hcut0
        have hsh := hsh0 _ _ _ (ha.call hbel hB)
        rw [rc_drop, rc_take, one_take hxe] at hsh
        have hc := check_any A2 1 (c - i) [x] _ w2 hsh hbel.size (by unfold maxLen; omega)
        have hokF := Mat.chk_ok [x]
        generalize Mat.chk [x] = FF at hc hokF
        obtain ⟨F1, F2⟩ := FF
        simp only at hokF hc
        have q0 : (i : Int) < (n : Int) := by omega
        have q1 : (0 : Int) ≤ (i : Int) := by omega
        clear hcut0 hsh0 hsh hxe
        by_cases hF : F1 = 0
        · have hx1 : Hid (Mat.one x = 0) := (hokF.1 hF).2.1 x (by simp)
          subst hF
          clear hokF
          go_wp2_with fail
          refine hc.mono ?_
          rintro e w3 ⟨rfl, hb3⟩
          have bel3 := bel_call hbel hb3
          clear hc hcutM
          obtain ⟨b, off, hAe, hb, g⟩ := ha.six Hxe.out
          have g := g.below bel3 hb
          go_wp2_with fail
          go_loopw [15] (fun s15 wk => ∃ k m : Nat, s15 = .int .i64 k ∧ k ≤ i ∧ Hid (∀ s y, l[s]? = some y → s < k → ¬ Mat.Same y x) ∧ wk = w3.drewN m) (fun k _ => i - (intOf k).toNat)
          case atStart => exact ⟨0, 0, rfl, by omega, fun s y _ h => by omega, rfl⟩
          case round =>
            obtain ⟨k, m, rfl, hki, hno, rfl⟩ := hrel
            by_cases hk : k < i
            · obtain ⟨y, hye⟩ : ∃ y, l[k]? = some y := ⟨l[k]'(by rw [Hl.out]; omega), List.getElem?_eq_getElem _⟩
              have Hye := Lib.hid hye
              obtain ⟨b', off', hA', hb', g'⟩ := ha.six hye
              rw [hAe] at hA'
              injection hA' with hA'
              injection hA' with hA1 hA2
              subst hA1; subst hA2
              have g' := g'.below bel3 hb'
              obtain ⟨c1', c2, c3, c4, c5, c6⟩ := g
              obtain ⟨e1, e2, e3, e4, e5, e6⟩ := g'
              have r1 : (k : Int) < (i : Int) := by omega
              have r2 : (k : Int) < (n : Int) := by omega
              have r3 : (0 : Int) ≤ (k : Int) := by omega
              subst hAe
              clear hye
              by_cases f1 : y.a = x.a
              · have d1 : (y.a == x.a) = true := by simpa using f1
                by_cases f2 : y.b = x.b
                · have d2 : (y.b == x.b) = true := by simpa using f2
                  by_cases f3 : y.c = x.c
                  · have d3 : (y.c == x.c) = true := by simpa using f3
                    clear f1 f2 f3
                    go_wp2_with fail
                    go_quiet (fail)
                    go_wp2_with fail
                    go_ret
                    exact ⟨rfl, bel_drewN (bel_drewN bel3 m) _⟩
                  · have d3 : (y.c == x.c) = false := by simpa using f3
                    have hn2 : Hid (¬ Mat.Same y x) := fun h => f3 h.2.2
                    clear f1 f2 f3
                    go_wp2_with fail
                    go_quiet (fail)
                    go_wp2_with fail
                    go_roundw
                    case rel => exact ⟨k + 1, _, by go_num, by omega, fun s z hz hs => by
                      rcases Nat.lt_or_ge s k with h | h
                      · exact hno.out s z hz h
                      · obtain rfl : s = k := by omega
                        rw [Hye.out] at hz; injection hz with hz; subst hz; exact hn2.out, rfl⟩
                    case measure => simp [intOf]; omega
                · have d2 : (y.b == x.b) = false := by simpa using f2
                  have hn2 : Hid (¬ Mat.Same y x) := fun h => f2 h.2.1
                  clear f1 f2
                  go_wp2_with fail
                  go_quiet (fail)
                  go_wp2_with fail
                  go_roundw
                  case rel => exact ⟨k + 1, _, by go_num, by omega, fun s z hz hs => by
                    rcases Nat.lt_or_ge s k with h | h
                    · exact hno.out s z hz h
                    · obtain rfl : s = k := by omega
                      rw [Hye.out] at hz; injection hz with hz; subst hz; exact hn2.out, rfl⟩
                  case measure => simp [intOf]; omega
              · have d1 : (y.a == x.a) = false := by simpa using f1
                have hn2 : Hid (¬ Mat.Same y x) := fun h => f1 h.1
                clear f1
                go_wp2_with fail
                go_quiet (fail)
                go_wp2_with fail
                go_roundw
                case rel => exact ⟨k + 1, _, by go_num, by omega, fun s z hz hs => by
                  rcases Nat.lt_or_ge s k with h | h
                  · exact hno.out s z hz h
                  · obtain rfl : s = k := by omega
                    rw [Hye.out] at hz; injection hz with hz; subst hz; exact hn2.out, rfl⟩
                case measure => simp [intOf]; omega
            · obtain rfl : k = i := by omega
              have r1 : ¬ (k : Int) < (k : Int) := by omega
              go_wp2_with fail
              go_roundw
              case rel => exact ⟨k + 1, by go_num, by omega, fun t y hy ht => by
                rcases Nat.lt_or_ge t k with h | h
                · exact hone.out t y hy h
                · obtain rfl : t = k := by omega
                  rw [Hxe.out] at hy; injection hy with hy; subst hy; exact hx1.out, fun s t y z hy hz hst ht => by
                rcases Nat.lt_or_ge t k with h | h
                · exact hap.out s t y z hy hz hst h
                · obtain rfl : t = k := by omega
                  rw [Hxe.out] at hz; injection hz with hz; subst hz; exact hno.out s y hy hst, bel_drewN bel3 _⟩
              case measure => simp [intOf]; omega
        · have f1 : (F1 == 0) = false := by simpa using hF
          have f2 : (F1 != 0) = true := by simpa using hF
          clear hokF hF
          go_wp2_with fail
          refine hc.mono ?_
          rintro e w3 ⟨rfl, hb3⟩
          go_wp2_with fail
          go_ret
          exact ⟨rfl, bel_call hbel hb3⟩
      · obtain rfl : i = n := by omega
        have q0 : ¬ (i : Int) < (i : Int) := by omega
        go_wp2_with fail
        go_meet
        case rel =>
          refine ⟨rfl, fun y hy => ?_, ?_, hbel⟩
          · obtain ⟨t, ht, rfl⟩ := List.mem_iff_getElem.1 hy
            exact hone.out t _ (List.getElem?_eq_getElem ht) (by rw [← Hl.out]; exact ht)
          · show Mat.Apart l
            unfold Mat.Apart
            rw [List.pairwise_iff_getElem]
            intro s t hs ht hst
            exact hap.out s t _ _ (List.getElem?_eq_getElem hs) (List.getElem?_eq_getElem ht) hst (by rw [← Hl.out]; exact ht)
  case rest =>
    obtain ⟨rfl, hone, hap, hbel⟩ := hcut
    obtain ⟨w4, rfl⟩ : ∃ w4, w4 = wc := ⟨_, rfl⟩
    have hok : Hid (Mat.Ok (Mat.srt l)) := Mat.srt_ok hone.out (by rw [Hl.out]; omega)
    have hKn : Hid ((Mat.srt l).length = n) := by show _ = _; rw [Mat.srt_len_apart _ l rfl hap.out]; exact Hl.out
    obtain ⟨i0, hi, hz0, hz1, hz2⟩ := info_parts infoR
    have ho : (w4.alloc (.cells #[] 28)).ownsRow w4.heap.size 28 6 (.slice (some ⟨w4.heap.size, 0, none⟩) 0 0) 0 [] := (show Block _ _ 28 [] from Block.new w4 28 []).owns (Nat.le_refl _) rfl (Nat.zero_le _)
    have ha4 := (ha.call hbel hB)
    go_upto_block 4 with (at_builtin; refine wpList_append_shows _ rfl _ _ 22 rfl w4.heap.size 28 i0 (.agg #[.int .i64 0, .int .i64 0, .int .i64 0, .int .i64 0, .int .i64 0, .int .i64 0]) 6 48 Try.underlying22 hi hz0 hz1 hz2 rfl (by decide) (.slice (some ⟨w4.heap.size, 0, none⟩) 0 0) 0 [] rfl ho w.heap.size A n c (RC l) rfl (ha4.alloc hbel.size _) (rc_one _) (by unfold maxLen; omega) (by omega) (by simp) ?_; intro A6 c6 w5 hown5 hg5)
    have hown5 : w5.ownsRow w4.heap.size 28 6 (.slice A6 (0 + n) c6) (0 + n) (RC l) := by simpa using hown5
    have bel5 : Below w.heap.size w w5 := bel_call hbel (bel_grown (bel_alloc (Below.refl _ _) _) hg5 (fun g hg => by simp [Value.ownBlock] at hg; omega))
    rw [Nat.zero_add] at hown5
    clear ho hg5
    have hz4 := hbel.size
    go_cut [16] (fun s16 wx => s16 = .slice A6 n c6 ∧ ∃ t, Aside (Shows wx wx.heap.size 6 A6 n (RC t)) ∧ Hid (t.Perm l) ∧ Below w.heap.size w wx)
    case first =>
      rcases own_row hown5 with ⟨rfl, hn0, rfl, hl0⟩ | ⟨g, junk, rfl, hg1, hg2, hrow, hnc6, hcm, hj⟩
      · subst hn0
        have hd0 : ¬ (0 : Int) < (0 : Int) := by omega
        go_wp2_with fail
        refine wp_loop_rounds 1 ?_
        rw [rounds_succ]
        go_wp2_with fail
        all_goals go_meet
        all_goals exact ⟨rfl, l, Shows.of_own hown5, List.Perm.refl _, bel5⟩
      · have hwg : w.heap.size ≤ g := by omega
        have hn0 : 0 < n ∨ n = 0 := by omega
        go_wp2_with fail
        go_loopw [17] (fun s17 wr => ∃ (i : Nat) (t : List S6), s17 = .int .i64 i ∧ i ≤ n1 ∧ RowS wr g t junk ∧ Hid (t.Perm l) ∧ Below w.heap.size w wr) (fun i _ => n1 - (intOf i).toNat)
        case atStart => exact ⟨0, l, rfl, by omega, hrow, List.Perm.refl _, bel5⟩
        case round =>
          obtain ⟨i, t, rfl, hin, hrw, hpm, hbr⟩ := hrel
          have htl : Hid (t.length = n) := by show _ = _; rw [hpm.out.length_eq]; exact Hl.out
          by_cases hlt : i < n1 ∧ 0 < n
          · obtain ⟨hlt, hnpos⟩ := hlt
            obtain ⟨u, hu⟩ : ∃ u, xs[i]? = some u := ⟨xs[i]'(by rw [Hxl.out]; exact hlt), List.getElem?_eq_getElem _⟩
            obtain ⟨b, off, rfl, hb, gu⟩ := num_at hx hu
            have gu := (hbr.cell (p := ⟨b, off + i, none⟩) hb).trans gu
            obtain ⟨u0, u1⟩ := Hxs.out u (List.mem_of_getElem? hu)
            have hpk := fun w => pick_any u n w u0 u1 hnpos (by omega)
            obtain ⟨p, hp⟩ : ∃ p, i % n = p := ⟨_, rfl⟩
            have hpn : p < n := by rw [← hp]; exact Nat.mod_lt _ hnpos
            have hm1 : (i : Int) % (n : Int) = (p : Int) := by omega
            have hm2 : (i : Int).tmod (n : Int) = (p : Int) := by rw [Int.tmod_eq_emod_of_nonneg (by omega)]; exact hm1
            have hne : ((n : Int) == 0) = false := by simp; omega
            have hne2 : ¬ (n : Int) = 0 := by omega
            have hnz : ¬ n = 0 := by omega
            have hwp : IntKind.i64.wrap (p : Int) = (p : Int) := by rw [IntKind.wrap_i64]; omega
            have r0 : (i : Int) < (n1 : Int) := by omega
            have r1 : (0 : Int) < (n : Int) := by omega
            have r2 : (0 : Int) ≤ (i : Int) := by omega
            clear hp hu hn0
            go_wp2_with fail
            go_region_held3 (fun w' => w'.cell? ⟨b, off + i, none⟩ = some (.int .i64 u)) (go_keep) (first
              | (go_at_call 25; refine (hpk _).mono ?_; rintro e w6 ⟨v, hv, rfl, rfl⟩))
            have hrw6 : RowS wr.drew g t junk := hrw
            have hbr6 : Below w.heap.size w wr.drew := bel_drewN hbr 1
            generalize wr.drew = w6 at hrw6 hbr6 ⊢
            go_upto_region 20 with (fail)
            have HR : Hid (RowS w6 g t junk) := hrw6
            have hts : t.toArray.size = n := by simpa using htl.out
            obtain ⟨k, hk⟩ : ∃ k : Nat, k = 6 := ⟨6, rfl⟩
            have R : RowK S6.cs k w6 g 0 t.toArray := by rw [hk]; exact rowK_of_row hrw6
            have S1 : SWK S6.cs k w6 g 0 t.toArray w6 := SWK.start R.hH
            have ea44 : ((p : Int)).toNat = p := by omega
            have pa44 : (0 : Int) ≤ (p : Int) := by omega
            have ba44 : (p : Int) < (n : Int) := by omega
            have ra44 : IntKind.i64.wrap ((p : Int)) = (p : Int) := hwp
            have ec44 : ((v : Int)).toNat = v := by omega
            have pc44 : (0 : Int) ≤ (v : Int) := by omega
            have bc44 : (v : Int) < (n : Int) := by omega
            have rc44 : IntKind.i64.wrap ((v : Int)) = (v : Int) := by rw [IntKind.wrap_i64]; omega
            have S2 := S1.swapped R p v (by omega) (by omega)
            have l44a := S1.ld1 R rfl Try.prog p (by omega)
            have l44b := S1.ld1 R rfl Try.prog v (by omega)
            have s44a := S1.st1 R rfl Try.prog p (by omega) t.toArray[v]!
            have s44b := S1.st2 R rfl Try.prog p v (by omega) (by omega) t.toArray[v]! t.toArray[p]!
            have n44a : (S6.cs t.toArray[p]!).length = k := R.hk _
            have n44b : (S6.cs t.toArray[v]!).length = k := R.hk _
            simp only [Nat.zero_add] at S2 l44a l44b s44a s44b
            have S2 : Aside (SWK S6.cs k w6 g 0 (swp t.toArray p v) ((w6.drew.setCells g (p * k) (S6.cs t.toArray[v]!)).setCells g (v * k) (S6.cs t.toArray[p]!))) := S2
            generalize S6.cs t.toArray[p]! = cI44 at S2 l44a s44b n44a
            generalize S6.cs t.toArray[v]! = cJ44 at S2 l44b s44a s44b n44b
            have Hk : Hid (k = 6) := hk
            have mixed := sortProg.mixed; have t0 := sortProg.t0; have a0 := sortProg.a0; have z0 := sortProg.z0; have v0 := sortProg.v0; have t3 := sortProg.t3; have a3 := sortProg.a3; have z3 := sortProg.z3; have v3 := sortProg.v3; have ts := sortProg.ts; have as22 := sortProg.as22; have zs := sortProg.zs; have vs := sortProg.vs; have aE := sortProg.aE
            have zE : ∀ w, (Go.sizeOf 28).run Try.prog w = .ok k w := by rw [hk]; exact sortProg.zE
            clear R S1 hk hrw6 hm1 hm2 hne hne2 hnz hwp gu hpk
            generalize Try.prog = P at mixed t0 a0 z0 v0 t3 a3 z3 v3 ts as22 zs vs aE zE l44a l44b s44a s44b ⊢
            go_big_region_o
            clear l44a l44b s44a s44b mixed t0 a0 z0 v0 t3 a3 z3 v3 ts as22 zs vs aE zE
            generalize (w6.drew.setCells g (p * k) cJ44).setCells g (v * k) cI44 = w7 at S2 ⊢
            have hres : Hid (∃ t' : List S6, RowS w7 g t' junk ∧ t'.Perm l ∧ Below w.heap.size w w7) := by
              have hS := S2.out
              rw [Hk.out] at hS
              have hpt : p < t.length := by rw [htl.out]; exact hpn
              have hvt : v < t.length := by rw [htl.out]; exact hv
              have e : swp t.toArray p v = ((t.set p t[v]).set v t[p]).toArray := by
                unfold swp
                apply Array.ext'
                simp only [Array.toList_setIfInBounds]
                rw [List.getElem!_toArray, List.getElem!_toArray, getElem!_pos t v hvt, getElem!_pos t p hpt]
              rw [e] at hS
              obtain ⟨hrow7, hgr7⟩ := row_of_swk HR.out (by rw [List.length_set, List.length_set]) hS
              exact ⟨_, hrow7, (List.set_set_perm hpt hvt).trans hpm.out, bel_grown hbr6 hgr7 (fun k hk => by injection hk with hk; omega)⟩
            obtain ⟨t', hrow7, hpm7, hbr7⟩ := hres.out
            have Hpm7 : Hid (t'.Perm l) := hpm7
            clear hres hpm7
            go_wp2_with fail
            go_roundw
            case rel => exact ⟨i + 1, t', by go_num, by omega, hrow7, Hpm7, hbr7⟩
            case measure => simp [intOf]; omega
          · have hsh : Hid (Shows wr wr.heap.size 6 (some ⟨g, 0, none⟩) n (RC t)) := Shows.of_own (row_own (base := 0) hrw htl.out (Nat.zero_le _) hcm hj)
            by_cases hlt1 : i < n1
            · have r0 : (i : Int) < (n1 : Int) := by omega
              have r1 : ¬ (0 : Int) < (n : Int) := by omega
              go_wp2_with fail
              go_meet
              case rel => exact ⟨rfl, t, hsh.out, hpm, hbr⟩
            · have r0 : ¬ (i : Int) < (n1 : Int) := by omega
              go_wp2_with fail
              go_meet
              case rel => exact ⟨rfl, t, hsh.out, hpm, hbr⟩
    case rest =>
      obtain ⟨rfl, t, hsh, hpm, hb5⟩ := hcut
      have hst : Hid (Mat.srt t = Mat.srt l) := Mat.srt_perm hpm.out (Mat.apart_perm hpm.out.symm hap.out) hap.out
      have hms1 := msort_any A n c l _ wc (ha.call hb5 hB) hb5.size (by omega)
      obtain ⟨w6, rfl⟩ : ∃ w6, w6 = wc := ⟨_, rfl⟩
      have hms2 := fun B' w' (h : Shows w' B' 6 A6 n (RC t)) (h' : B' ≤ w'.heap.size) => msort_any A6 n c6 t B' w' h h' (by omega)
      rw [hst.out] at hms2
      rw [hKn.out] at hms1
      simp only [hKn.out] at hms2
      clear hst hone hap hpm hown5
      generalize Mat.srt l = M at hok hKn hms1 hms2
      go_wp2_with fail
      refine hms1.mono ?_
      rintro e w7 ⟨A7, c7, rfl, ho7, hb7⟩
      have bel7 := bel_call hb5 hb7
      have k7 := Shows.of_own ho7
      have t7 := hsh.out.call hb7 (Nat.le_refl _)
      go_wp2_with fail
      refine (hms2 _ _ t7 hb7.size).mono ?_
      rintro e w8 ⟨A8, c8, rfl, ho8, hb8⟩
      have bel8 := bel_call bel7 hb8
      have k8 := k7.call hb8 (Nat.le_refl _)
      have z8 := hb8.size
      have s8 := Shows.of_own ho8
      clear hms1 hms2 k7 t7 hsh ho7 ho8
      have hcm := check_any A7 n c7 M _ w8 k8 z8 hmx
      rw [Mat.chk_00 ((Mat.chk_ok M).2 hok.out)] at hcm
      go_wp2_with fail
      refine hcm.mono ?_
      rintro e w9 ⟨rfl, hb9⟩
      have bel9 := bel_call bel8 hb9
      have k9 := k8.call hb9 z8
      have z9 := Nat.le_trans z8 hb9.size
      have s9 := s8.call hb9 (Nat.le_refl _)
      have y9 := hb9.size
      obtain ⟨xr, bt, hxr⟩ : ∃ xr bt, Mat.hand (Mat.asF M jj q d) = (xr, bt) := ⟨_, _, rfl⟩
      have ha1 := as_any A7 n c7 M jj q d _ w9 k9 z9 hmx hxr
      have ha2 := fun B' w' (h : Shows w' B' 6 A8 n (RC M)) (h' : B' ≤ w'.heap.size) => as_any A8 n c8 M jj q d B' w' h h' hmx hxr
      clear hcm hxr k8 s8
      go_wp2_with fail
      refine ha1.mono ?_
      rintro e w10 ⟨rfl, hb10⟩
      have bel10 := bel_alloc (bel_call bel9 hb10) (.cells #[.int .i64 xr.a, .int .i64 xr.b, .int .i64 xr.c, .int .i64 xr.d, .int .i64 xr.e, .int .i64 xr.f] 28)
      have k10 := (k9.call hb10 z9).alloc (Nat.le_trans z9 hb10.size) (.cells #[.int .i64 xr.a, .int .i64 xr.b, .int .i64 xr.c, .int .i64 xr.d, .int .i64 xr.e, .int .i64 xr.f] 28)
      have s10 := (s9.call hb10 y9).alloc (Nat.le_trans y9 hb10.size) (.cells #[.int .i64 xr.a, .int .i64 xr.b, .int .i64 xr.c, .int .i64 xr.d, .int .i64 xr.e, .int .i64 xr.f] 28)
      have r10 : Block (w10.alloc (.cells #[.int .i64 xr.a, .int .i64 xr.b, .int .i64 xr.c, .int .i64 xr.d, .int .i64 xr.e, .int .i64 xr.f] 28)) w10.heap.size 28 xr.cs := Block.new w10 28 xr.cs
      go_upto_region 24 with (fail)
      obtain ⟨W1, hW1⟩ : ∃ W1, w10.alloc (.cells #[.int .i64 xr.a, .int .i64 xr.b, .int .i64 xr.c, .int .i64 xr.d, .int .i64 xr.e, .int .i64 xr.f] 28) = W1 := ⟨_, rfl⟩
      rw [hW1] at bel10 k10 s10 r10
      rw [hW1]
      have z10 : w7.heap.size ≤ W1.heap.size := by rw [← hW1]; exact Nat.le_trans (Nat.le_trans z9 hb10.size) (by simp)
      have y10 : w8.heap.size ≤ W1.heap.size := by rw [← hW1]; exact Nat.le_trans (Nat.le_trans y9 hb10.size) (by simp)
      clear hW1 ha1 k9 s9
      go_wp2_with fail
      refine (ha2 _ _ s10 y10).mono ?_
      rintro e w11 ⟨rfl, hb11⟩
      have bel11 := bel_alloc (bel_call bel10 hb11) (.cells #[.int .i64 xr.a, .int .i64 xr.b, .int .i64 xr.c, .int .i64 xr.d, .int .i64 xr.e, .int .i64 xr.f] 28)
      have k11 := (k10.call hb11 z10).alloc (Nat.le_trans z10 hb11.size) (.cells #[.int .i64 xr.a, .int .i64 xr.b, .int .i64 xr.c, .int .i64 xr.d, .int .i64 xr.e, .int .i64 xr.f] 28)
      have s11 := (s10.call hb11 y10).alloc (Nat.le_trans y10 hb11.size) (.cells #[.int .i64 xr.a, .int .i64 xr.b, .int .i64 xr.c, .int .i64 xr.d, .int .i64 xr.e, .int .i64 xr.f] 28)
      have r11 := (r10.call hb11).alloc (.cells #[.int .i64 xr.a, .int .i64 xr.b, .int .i64 xr.c, .int .i64 xr.d, .int .i64 xr.e, .int .i64 xr.f] 28)
      have q11 : Block (w11.alloc (.cells #[.int .i64 xr.a, .int .i64 xr.b, .int .i64 xr.c, .int .i64 xr.d, .int .i64 xr.e, .int .i64 xr.f] 28)) w11.heap.size 28 xr.cs := Block.new w11 28 xr.cs
      go_upto_region 25 with (fail)
      obtain ⟨W2, hW2⟩ : ∃ W2, w11.alloc (.cells #[.int .i64 xr.a, .int .i64 xr.b, .int .i64 xr.c, .int .i64 xr.d, .int .i64 xr.e, .int .i64 xr.f] 28) = W2 := ⟨_, rfl⟩
      rw [hW2] at bel11 k11 s11 r11 q11
      rw [hW2]
      clear hW2 ha2 k10 s10 r10
      obtain ⟨u1, u2, u3, u4, u5, u6⟩ := Block.six r11
      obtain ⟨v1, v2, v3, v4, v5, v6⟩ := Block.six q11
      have hsame := same6_yes _ _ n c7 c8 M _ _ W2 k11 s11 hmx
      go_wp2_with (first | (go_at_call 15; refine hsame.mono ?_; rintro e w12 ⟨rfl, m12, rfl⟩))
      go_ret
      exact ⟨rfl, bel_drewN bel11 m12⟩
theorem mturned_walk (A : Option Addr) (n c : Nat) (l : List S6) (A1 : Option Addr) (n1 c1 : Nat) (xs : List Int) (jj q d : Int) (w : World) (ha : Shows w w.heap.size 6 A n (RC l)) (_hf : Fit6 l) (hnc : n ≤ c) (_ : c ≤ maxLen) (hx : Shows w w.heap.size 1 A1 n1 (I64 xs)) (hxs : ∀ x ∈ xs, -9223372036854775808 ≤ x ∧ x ≤ 9223372036854775807) (_ : n1 ≤ c1) (_ : c1 ≤ maxLen)
    (_ : -9223372036854775808 ≤ jj ∧ jj ≤ 9223372036854775807) (_ : -9223372036854775808 ≤ q ∧ q ≤ 9223372036854775807) (_ : -9223372036854775808 ≤ d ∧ d ≤ 9223372036854775807) :
    Calls Try.prog 9 #[.slice A n c, .slice A1 n1 c1, .int .i64 jj, .int .i64 q, .int .i64 d] w fun e w' => e = .returned (.bool true) ∧ Below w.heap.size w w' := by
  by_cases h : 60 < n ∨ 100 < n1
  · exact mturned_early A n c A1 n1 c1 jj q d w h
  · exact mturned_main A n c l A1 n1 c1 xs jj q d w ha hnc hx hxs (by omega) (by omega)
end Go.Proofs.Ytiomkbpniplfhaa
