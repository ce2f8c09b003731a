/- The walk of 'slices.symMergeCmpFunc' where one of the two neighbours is of one element; at elements of k cells. -/
import Derived.Test.YtiomkbpniplfhaaSrtLay
import Derived.Test.YtiomkbpniplfhaaSrtSymPlain
import Derived.Sort.WalkB2
import Derived.Sort.WalkB12
import Derived.Deep.LoopGhost
namespace Go.Proofs.Ytiomkbpniplfhaa
open Go.Shelf Go.RowKit Go.Lib Go.Sort
variable {P : Program} {α : Type} [Inhabited α]

set_option maxHeartbeats 8000000 in
set_option maxRecDepth 1000000 in
theorem SortProg.symLeft {k : Nat} (L : SortProg P k) (enc : α → List Value) (cf : α → α → Int) (hO : SWO (ltOf cf)) (g : Nat) (cb : Array Value) (blk off cap a m b N : Nat) (d0 d : Array α) (w0 w : World)
    (eg : ∀ args w, (callFunc g args).run P w = .ok (.enter g args) w) (hcmp : CmpLays P g cb enc k cf blk off d0.size w0) (R : RowK enc k w0 blk off d0) (hN0 : d0.size = N) (hN : d.size = N) (hsz : N < 4611686018427387904) (S : SWK enc k w0 blk off d w)
    (Ll B Rr : List α) (x : α) (hd : d = (Ll ++ (x :: (B ++ Rr))).toArray) (ha : a = Ll.length) (hm : m = a + 1) (hb : b = m + B.length) (hB : Sd (ltOf cf) B) :
    Calls P 50 #[.slice (some ⟨blk, off, none⟩) N cap, .int .i64 a, .int .i64 m, .int .i64 b, .func (.func g) #[] cb] w fun e w' => e = .returned (.tuple #[]) ∧ SWK enc k w0 blk off (Ll ++ (mrg (ltOf cf) [x] B ++ Rr)).toArray w' := by
  have mixed := L.mixed; have t0 := L.t0; have a0 := L.a0; have z0 := L.z0; have v0 := L.v0; have t3 := L.t3; have a3 := L.a3; have z3 := L.z3; have v3 := L.v3; have t4 := L.t4; have a4 := L.a4; have z4 := L.z4; have v4 := L.v4; have ts := L.ts; have as22 := L.as22; have zs := L.zs; have vs := L.vs; have tf := L.tf; have af := L.af; have zf := L.zf; have vf := L.vf; have aE := L.aE; have zE := L.zE; have tu := L.tu; have au := L.au; have zu := L.zu; have vu := L.vu
  have HC : Aside (CmpLays P g cb enc k cf blk off d0.size w0) := hcmp
  have S0 : Aside (SWK enc k w0 blk off d w) := S
  have hbN : b ≤ N := by
    rw [← hN, hd]; simp; omega
  have hend := fun i h1 h2 h3 h4 => sym_left hO Ll B Rr x (i := i) hd ha hm hb h1 h2 h3 h4 hB
  have HE : Aside (∀ i, m ≤ i → i ≤ b → (i = m ∨ ltOf cf d[i - 1]! d[a]! = true) → (i = b ∨ ltOf cf d[i]! d[a]! = false) → upR d a (i - m) = (Ll ++ (mrg (ltOf cf) [x] B ++ Rr)).toArray) := hend
  have HD : Hid (d.size = N) := hN
  have HD0 : Hid (d0.size = N) := hN0
  clear S hcmp hend hd ha hN hN0
  have hm1 : a + 1 ≤ m := by omega
  have hm2 : m ≤ a + 1 := by omega
  have hm3 : (m : Int) - (a : Int) = 1 := by omega
  have ha1 : a + 1 ≤ b := by omega
  clear hb hm
  go_enter L.f4, Try.ntmps50
  go_wp2_with fail
  go_loopw [10, 11] (fun s10 s11 wr => ∃ (i j : Nat), s10 = .int .i64 i ∧ s11 = .int .i64 j ∧ m ≤ i ∧ i ≤ j ∧ j ≤ b ∧ Aside (SWK enc k w0 blk off d wr) ∧ Hid (i = m ∨ ltOf cf d[i - 1]! d[a]! = true) ∧ Hid (j = b ∨ ltOf cf d[j]! d[a]! = false))
    (fun vi vj _ => (intOf vj).toNat - (intOf vi).toNat)
  case atStart => exact ⟨m, b, rfl, rfl, by omega, by omega, by omega, S0, Or.inl rfl, Or.inl rfl⟩
  case round =>
    clear S0
    obtain ⟨i, j, rfl, rfl, hai, hij, hjb, SU, hI, hJ⟩ := hrel
    by_cases hlt : i < j
    · have hltz : (i : Int) < (j : Int) := by omega
      obtain ⟨h, hh⟩ : ∃ h, (i + j) / 2 = h := ⟨_, rfl⟩
      have e1 : i ≤ h := by omega
      have e2 : h < j := by omega
      have ek : ((i : Int) + (j : Int)) / 2 = (h : Int) := by omega
      clear hh
      have ea1 : ((h : Int)).toNat = h := by omega
      have pa1 : (0 : Int) ≤ (h : Int) := by omega
      have ba1 : (h : Int) < (N : Int) := by omega
      have ra1 : IntKind.i64.wrap ((h : Int)) = (h : Int) := by rw [IntKind.wrap_i64]; omega
      have ec1 : ((a : Int)).toNat = a := by omega
      have pc1 : (0 : Int) ≤ (a : Int) := by omega
      have bc1 : (a : Int) < (N : Int) := by omega
      have rc1 : IntKind.i64.wrap ((a : Int)) = (a : Int) := by rw [IntKind.wrap_i64]; omega
      obtain ⟨y1, hy1⟩ : ∃ x, x = d[h]! := ⟨_, rfl⟩
      obtain ⟨y2, hy2⟩ : ∃ x, x = d[a]! := ⟨_, rfl⟩
      have l1a := SU.out.ld R (by rw [HD.out, HD0.out]) P h (by rw [HD.out]; omega)
      have l1b := SU.out.ld R (by rw [HD.out, HD0.out]) P a (by rw [HD.out]; omega)
      rw [← hy1] at l1a
      rw [← hy2] at l1b
      have hc1 := SU.out.cmp HC.out (by rw [HD.out, HD0.out]) y1 y2
      by_cases hv : cf y1 y2 < 0
      · have hd1 : decide (cf y1 y2 < 0) = true := decide_eq_true hv
        have HI : Hid (ltOf cf d[h]! d[a]! = true) := by show _ = _; rw [← hy1, ← hy2]; exact hd1
        clear hy1 hy2
        go_wp2_with fail
        go_quiet_grown (first | (go_at_fn g; refine Calls.grown_of (hc1 _ _)))
        have SU2 : Aside (SWK enc k w0 blk off d (grow (wr.drewN nq) osq)) := SU.out.grown nq osq
        clear l1a l1b hc1 SU
        generalize grow (wr.drewN nq) osq = wu2 at SU2 ⊢
        clear nq osq
        go_wp2_with fail
        go_roundw
        case rel => exact ⟨h + 1, j, by go_num, rfl, by omega, by omega, hjb, SU2, Or.inr HI.out, hJ⟩
        case measure => simp [intOf]; omega
      · have hd1 : decide (cf y1 y2 < 0) = false := decide_eq_false hv
        have HI : Hid (ltOf cf d[h]! d[a]! = false) := by show _ = _; rw [← hy1, ← hy2]; exact hd1
        clear hy1 hy2
        go_wp2_with fail
        go_quiet_grown (first | (go_at_fn g; refine Calls.grown_of (hc1 _ _)))
        have SU2 : Aside (SWK enc k w0 blk off d (grow (wr.drewN nq) osq)) := SU.out.grown nq osq
        clear l1a l1b hc1 SU
        generalize grow (wr.drewN nq) osq = wu2 at SU2 ⊢
        clear nq osq
        go_wp2_with fail
        go_roundw
        case rel => exact ⟨i, h, rfl, rfl, hai, by omega, by omega, SU2, hI, Or.inr HI.out⟩
        case measure => simp [intOf]; omega
    · obtain rfl : i = j := by omega
      have HE2 : Hid (upR d a (i - m) = (Ll ++ (mrg (ltOf cf) [x] B ++ Rr)).toArray) := HE.out i hai hjb hI.out hJ.out
      have hltz : ¬ (i : Int) < (i : Int) := by omega
      have ei : (i : Int) - 1 = ((i - 1 : Nat) : Int) := by omega
      go_wp2_with fail
      go_loopg [13] i (fun kx s13 wr => ∃ (q : Nat) (dk : Array α), s13 = .int .i64 q ∧ a ≤ q ∧ q ≤ i - 1 ∧ i - q ≤ kx ∧ Hid (dk.size = N) ∧ Aside (SWK enc k w0 blk off dk wr) ∧ Hid (upR dk q (i - 1 - q) = upR d a (i - m)))
      case atStart => exact ⟨a, d, rfl, Nat.le_refl _, by omega, by omega, HD, SU, by show _ = _; rw [show i - 1 - a = i - m by omega]⟩
      case round =>
        clear SU
        obtain ⟨q, dk, rfl, haq, hqi, hkx, hds, S1, heq⟩ := hrel
        by_cases hq : q < i - 1
        · have hqz : (q : Int) < ((i - 1 : Nat) : Int) := by omega
          go_wp2_with fail
          have ea44 : ((q : Int)).toNat = q := by omega
          have pa44 : (0 : Int) ≤ (q : Int) := by omega
          have ba44 : (q : Int) < (N : Int) := by omega
          have ra44 : IntKind.i64.wrap ((q : Int)) = (q : Int) := by rw [IntKind.wrap_i64]; omega
          have ec44 : ((q : Int) + 1).toNat = q + 1 := by omega
          have pc44 : (0 : Int) ≤ (q : Int) + 1 := by omega
          have bc44 : (q : Int) + 1 < (N : Int) := by omega
          have rc44 : IntKind.i64.wrap ((q : Int) + 1) = (q : Int) + 1 := by rw [IntKind.wrap_i64]; omega
          have S2 : Aside (SWK enc k w0 blk off (swp dk q (q + 1)) ((wr.drew.setCells blk (off + q * k) (enc dk[q + 1]!)).setCells blk (off + (q + 1) * k) (enc dk[q]!))) := S1.out.swapped R q (q + 1) (by rw [hds.out]; omega) (by rw [hds.out]; omega)
          have l44a := S1.out.ld1 R (by rw [hds.out, HD0.out]) P q (by rw [hds.out]; omega)
          have l44b := S1.out.ld1 R (by rw [hds.out, HD0.out]) P (q + 1) (by rw [hds.out]; omega)
          have s44a := S1.out.st1 R (by rw [hds.out, HD0.out]) P q (by rw [hds.out]; omega) dk[q + 1]!
          have s44b := S1.out.st2 R (by rw [hds.out, HD0.out]) P q (q + 1) (by rw [hds.out]; omega) (by rw [hds.out]; omega) dk[q + 1]! dk[q]!
          have n44a : (enc dk[q]!).length = k := R.hk _
          have n44b : (enc dk[q + 1]!).length = k := R.hk _
          generalize enc dk[q]! = cI44 at S2 l44a s44b n44a
          generalize enc dk[q + 1]! = cJ44 at S2 l44b s44a s44b n44b
          clear S1
          go_big_region_o
          clear l44a l44b s44a s44b
          generalize (wr.drew.setCells blk (off + q * k) cJ44).setCells blk (off + (q + 1) * k) cI44 = w2 at S2 ⊢
          go_wp2_with fail
          go_roundg (i - (q + 1))
          case measure => omega
          case rel =>
            have e1 := heq.out
            rw [upR_go _ _ _ (by omega)] at e1
            exact ⟨q + 1, swp dk q (q + 1), by go_num, by omega, by omega, Nat.le_refl _, by show _ = _; rw [size_swp]; exact hds.out, S2, by show _ = _; rw [← e1]; congr 1⟩
        · have hqz : ¬ (q : Int) < ((i - 1 : Nat) : Int) := by omega
          obtain rfl : q = i - 1 := by omega
          go_wp2_with fail
          (try simp only [Exit.inBlock, Exit.then]); refine bodyPost_ret (results_none rfl _ _ _) rfl ?_
          have e1 := heq.out
          rw [Nat.sub_self, HE2.out] at e1
          exact ⟨rfl, by rw [← e1]; exact S1.out⟩

set_option maxHeartbeats 8000000 in
set_option maxRecDepth 1000000 in
theorem SortProg.symRight {k : Nat} (L : SortProg P k) (enc : α → List Value) (cf : α → α → Int) (hO : SWO (ltOf cf)) (g : Nat) (cb : Array Value) (blk off cap a m b N : Nat) (d0 d : Array α) (w0 w : World)
    (eg : ∀ args w, (callFunc g args).run P w = .ok (.enter g args) w) (hcmp : CmpLays P g cb enc k cf blk off d0.size w0) (R : RowK enc k w0 blk off d0) (hN0 : d0.size = N) (hN : d.size = N) (hsz : N < 4611686018427387904) (S : SWK enc k w0 blk off d w)
    (Ll A Rr : List α) (y : α) (hd : d = (Ll ++ (A ++ (y :: Rr))).toArray) (ha : a = Ll.length) (hm : m = a + A.length) (hA2 : 2 ≤ A.length) (hb : b = m + 1) (hA : Sd (ltOf cf) A) :
    Calls P 50 #[.slice (some ⟨blk, off, none⟩) N cap, .int .i64 a, .int .i64 m, .int .i64 b, .func (.func g) #[] cb] w fun e w' => e = .returned (.tuple #[]) ∧ SWK enc k w0 blk off (Ll ++ (mrg (ltOf cf) A [y] ++ Rr)).toArray w' := by
  have mixed := L.mixed; have t0 := L.t0; have a0 := L.a0; have z0 := L.z0; have v0 := L.v0; have t3 := L.t3; have a3 := L.a3; have z3 := L.z3; have v3 := L.v3; have t4 := L.t4; have a4 := L.a4; have z4 := L.z4; have v4 := L.v4; have ts := L.ts; have as22 := L.as22; have zs := L.zs; have vs := L.vs; have tf := L.tf; have af := L.af; have zf := L.zf; have vf := L.vf; have aE := L.aE; have zE := L.zE; have tu := L.tu; have au := L.au; have zu := L.zu; have vu := L.vu
  have HC : Aside (CmpLays P g cb enc k cf blk off d0.size w0) := hcmp
  have S0 : Aside (SWK enc k w0 blk off d w) := S
  have hbN : b ≤ N := by
    rw [← hN, hd]; simp; omega
  have hend := fun i h1 h2 h3 h4 => sym_right hO Ll A Rr y (i := i) hd ha hm h1 h2 h3 h4 hA
  have HE : Aside (∀ i, a ≤ i → i ≤ m → (i = a ∨ ltOf cf d[m]! d[i - 1]! = false) → (i = m ∨ ltOf cf d[m]! d[i]! = true) → downR d m (m - i) = (Ll ++ (mrg (ltOf cf) A [y] ++ Rr)).toArray) := hend
  have HD : Hid (d.size = N) := hN
  have HD0 : Hid (d0.size = N) := hN0
  clear S hcmp hend hd ha hN hN0
  have hm1 : a + 2 ≤ m := by omega
  have hm2 : b ≤ m + 1 := by omega
  have hm4 : m + 1 ≤ b := by omega
  have hm3 : ¬ (m : Int) - (a : Int) = 1 := by omega
  have hm3' : ((m : Int) - (a : Int) == 1) = false := by simpa using hm3
  have hm5 : (b : Int) - (m : Int) = 1 := by omega
  clear hb hm hA2
  go_enter L.f4, Try.ntmps50
  go_wp2_with fail
  go_loopw [14, 15] (fun s10 s11 wr => ∃ (i j : Nat), s10 = .int .i64 i ∧ s11 = .int .i64 j ∧ a ≤ i ∧ i ≤ j ∧ j ≤ m ∧ Aside (SWK enc k w0 blk off d wr) ∧ Hid (i = a ∨ ltOf cf d[m]! d[i - 1]! = false) ∧ Hid (j = m ∨ ltOf cf d[m]! d[j]! = true))
    (fun vi vj _ => (intOf vj).toNat - (intOf vi).toNat)
  case atStart => exact ⟨a, m, rfl, rfl, by omega, by omega, by omega, S0, Or.inl rfl, Or.inl rfl⟩
  case round =>
    clear S0
    obtain ⟨i, j, rfl, rfl, hai, hij, hjb, SU, hI, hJ⟩ := hrel
    by_cases hlt : i < j
    · have hltz : (i : Int) < (j : Int) := by omega
      obtain ⟨h, hh⟩ : ∃ h, (i + j) / 2 = h := ⟨_, rfl⟩
      have e1 : i ≤ h := by omega
      have e2 : h < j := by omega
      have ek : ((i : Int) + (j : Int)) / 2 = (h : Int) := by omega
      clear hh
      have ea1 : ((h : Int)).toNat = h := by omega
      have pa1 : (0 : Int) ≤ (h : Int) := by omega
      have ba1 : (h : Int) < (N : Int) := by omega
      have ra1 : IntKind.i64.wrap ((h : Int)) = (h : Int) := by rw [IntKind.wrap_i64]; omega
      have ec1 : ((m : Int)).toNat = m := by omega
      have pc1 : (0 : Int) ≤ (m : Int) := by omega
      have bc1 : (m : Int) < (N : Int) := by omega
      have rc1 : IntKind.i64.wrap ((m : Int)) = (m : Int) := by rw [IntKind.wrap_i64]; omega
      obtain ⟨y1, hy1⟩ : ∃ x, x = d[m]! := ⟨_, rfl⟩
      obtain ⟨y2, hy2⟩ : ∃ x, x = d[h]! := ⟨_, rfl⟩
      have l1a := SU.out.ld R (by rw [HD.out, HD0.out]) P m (by rw [HD.out]; omega)
      have l1b := SU.out.ld R (by rw [HD.out, HD0.out]) P h (by rw [HD.out]; omega)
      rw [← hy1] at l1a
      rw [← hy2] at l1b
      have hc1 := SU.out.cmp HC.out (by rw [HD.out, HD0.out]) y1 y2
      by_cases hv : cf y1 y2 < 0
      · have hd1 : decide (cf y1 y2 < 0) = true := decide_eq_true hv
        have HI : Hid (ltOf cf d[m]! d[h]! = true) := by show _ = _; rw [← hy1, ← hy2]; exact hd1
        clear hy1 hy2
        go_wp2_with fail
        go_quiet_grown (first | (go_at_fn g; refine Calls.grown_of (hc1 _ _)))
        have SU2 : Aside (SWK enc k w0 blk off d (grow (wr.drewN nq) osq)) := SU.out.grown nq osq
        clear l1a l1b hc1 SU
        generalize grow (wr.drewN nq) osq = wu2 at SU2 ⊢
        clear nq osq
        go_wp2_with fail
        go_roundw
        case rel => exact ⟨i, h, rfl, rfl, hai, by omega, by omega, SU2, hI, Or.inr HI.out⟩
        case measure => simp [intOf]; omega
      · have hd1 : decide (cf y1 y2 < 0) = false := decide_eq_false hv
        have HI : Hid (ltOf cf d[m]! d[h]! = false) := by show _ = _; rw [← hy1, ← hy2]; exact hd1
        clear hy1 hy2
        go_wp2_with fail
        go_quiet_grown (first | (go_at_fn g; refine Calls.grown_of (hc1 _ _)))
        have SU2 : Aside (SWK enc k w0 blk off d (grow (wr.drewN nq) osq)) := SU.out.grown nq osq
        clear l1a l1b hc1 SU
        generalize grow (wr.drewN nq) osq = wu2 at SU2 ⊢
        clear nq osq
        go_wp2_with fail
        go_roundw
        case rel => exact ⟨h + 1, j, by go_num, rfl, by omega, by omega, hjb, SU2, Or.inr HI.out, hJ⟩
        case measure => simp [intOf]; omega
    · obtain rfl : i = j := by omega
      have HE2 : Hid (downR d m (m - i) = (Ll ++ (mrg (ltOf cf) A [y] ++ Rr)).toArray) := HE.out i hai hjb hI.out hJ.out
      have hltz : ¬ (i : Int) < (i : Int) := by omega
      go_wp2_with fail
      go_loopg [17] m (fun kx s13 wr => ∃ (q : Nat) (dk : Array α), s13 = .int .i64 q ∧ q ≤ m ∧ i ≤ q ∧ q - i ≤ kx ∧ Hid (dk.size = N) ∧ Aside (SWK enc k w0 blk off dk wr) ∧ Hid (downR dk q (q - i) = downR d m (m - i)))
      case atStart => exact ⟨m, d, rfl, Nat.le_refl _, by omega, by omega, HD, SU, rfl⟩
      case round =>
        clear SU
        obtain ⟨q, dk, rfl, hqm, hiq, hkx, hds, S1, heq⟩ := hrel
        by_cases hq : i < q
        · obtain ⟨qp, rfl⟩ : ∃ qp, q = qp + 1 := ⟨q - 1, by omega⟩
          have hqz : (i : Int) < (qp : Int) + 1 := by omega
          go_wp2_with fail
          have ea44 : ((qp : Int) + 1).toNat = qp + 1 := by omega
          have pa44 : (0 : Int) ≤ (qp : Int) + 1 := by omega
          have ba44 : (qp : Int) + 1 < (N : Int) := by omega
          have ra44 : IntKind.i64.wrap ((qp : Int) + 1) = (qp : Int) + 1 := by rw [IntKind.wrap_i64]; omega
          have ec44 : ((qp : Int)).toNat = qp := by omega
          have pc44 : (0 : Int) ≤ (qp : Int) := by omega
          have bc44 : (qp : Int) < (N : Int) := by omega
          have rc44 : IntKind.i64.wrap ((qp : Int)) = (qp : Int) := by rw [IntKind.wrap_i64]; omega
          have S2 : Aside (SWK enc k w0 blk off (swp dk (qp + 1) qp) ((wr.drew.setCells blk (off + (qp + 1) * k) (enc dk[qp]!)).setCells blk (off + qp * k) (enc dk[qp + 1]!))) := S1.out.swapped R (qp + 1) qp (by rw [hds.out]; omega) (by rw [hds.out]; omega)
          have l44a := S1.out.ld1 R (by rw [hds.out, HD0.out]) P (qp + 1) (by rw [hds.out]; omega)
          have l44b := S1.out.ld1 R (by rw [hds.out, HD0.out]) P qp (by rw [hds.out]; omega)
          have s44a := S1.out.st1 R (by rw [hds.out, HD0.out]) P (qp + 1) (by rw [hds.out]; omega) dk[qp]!
          have s44b := S1.out.st2 R (by rw [hds.out, HD0.out]) P (qp + 1) qp (by rw [hds.out]; omega) (by rw [hds.out]; omega) dk[qp]! dk[qp + 1]!
          have n44a : (enc dk[qp + 1]!).length = k := R.hk _
          have n44b : (enc dk[qp]!).length = k := R.hk _
          generalize enc dk[qp + 1]! = cI44 at S2 l44a s44b n44a
          generalize enc dk[qp]! = cJ44 at S2 l44b s44a s44b n44b
          clear S1
          go_big_region_o
          clear l44a l44b s44a s44b
          generalize (wr.drew.setCells blk (off + (qp + 1) * k) cJ44).setCells blk (off + qp * k) cI44 = w2 at S2 ⊢
          go_wp2_with fail
          go_roundg (qp - i)
          case measure => omega
          case rel =>
            have e1 := heq.out
            rw [downR_go _ _ _ (by omega)] at e1
            exact ⟨qp, swp dk (qp + 1) qp, by go_num, by omega, by omega, Nat.le_refl _, by show _ = _; rw [size_swp]; exact hds.out, S2, by show _ = _; rw [← e1]; congr 1; omega⟩
        · have hqz : ¬ (i : Int) < (q : Int) := by omega
          obtain rfl : i = q := by omega
          go_wp2_with fail
          (try simp only [Exit.inBlock, Exit.then]); refine bodyPost_ret (results_none rfl _ _ _) rfl ?_
          have e1 := heq.out
          rw [Nat.sub_self, HE2.out] at e1
          exact ⟨rfl, by rw [← e1]; exact S1.out⟩
end Go.Proofs.Ytiomkbpniplfhaa
