/- The walk of 'slices.symMergeCmpFunc': it merges two sorted neighbours, stably; at elements of k cells. -/
import Derived.Test.YtiomkbpniplfhaaSrtSwap
import Derived.Test.YtiomkbpniplfhaaSrtSymOne
import Derived.Deep.Cut
namespace Go.Proofs.Ytiomkbpniplfhaa
open Go.Shelf Go.RowKit Go.Lib Go.Sort
variable {P : Program} {α : Type} [Inhabited α]

/-- What is said of one call. -/
def SymSays (P : Program) (enc : α → List Value) (k : Nat) (cf : α → α → Int) (g : Nat) (cb : Array Value) (blk off cap N : Nat) (_d0 : Array α) (w0 : World) (s : Nat) : Prop :=
  ∀ (Ll A B Rr : List α) (a m b : Nat) (w : World), (Ll ++ (A ++ (B ++ Rr))).length = N → a = Ll.length → m = a + A.length → b = m + B.length → b - a ≤ s → 0 < A.length → 0 < B.length → Sd (ltOf cf) A → Sd (ltOf cf) B →
    SWK enc k w0 blk off (Ll ++ (A ++ (B ++ Rr))).toArray w →
    Calls P 50 #[.slice (some ⟨blk, off, none⟩) N cap, .int .i64 a, .int .i64 m, .int .i64 b, .func (.func g) #[] cb] w fun e w' => e = .returned (.tuple #[]) ∧ SWK enc k w0 blk off (Ll ++ (mrg (ltOf cf) A B ++ Rr)).toArray w'

set_option maxHeartbeats 16000000 in
set_option maxRecDepth 1000000 in
theorem SortProg.symMany {k : Nat} (L : SortProg P k) (enc : α → List Value) (cf : α → α → Int) (hO : SWO (ltOf cf)) (g : Nat) (cb : Array Value) (blk off cap N : Nat) (d0 : Array α) (w0 : World)
    (eg : ∀ args w, (callFunc g args).run P w = .ok (.enter g args) w) (hcmp : CmpLays P g cb enc k cf blk off d0.size w0) (R : RowK enc k w0 blk off d0) (hN0 : d0.size = N) (hsz : N < 4611686018427387904)
    (s : Nat) (ih : SymSays P enc k cf g cb blk off cap N d0 w0 s)
    (Ll A B Rr : List α) (a m b : Nat) (w : World) (hN : (Ll ++ (A ++ (B ++ Rr))).length = N) (ha : a = Ll.length) (hm : m = a + A.length) (hb : b = m + B.length) (hs : b - a ≤ s + 1) (hA2 : 2 ≤ A.length) (hB2 : 2 ≤ B.length) (hA : Sd (ltOf cf) A) (hB : Sd (ltOf cf) B)
    (S : SWK enc k w0 blk off (Ll ++ (A ++ (B ++ Rr))).toArray w) :
    Calls P 50 #[.slice (some ⟨blk, off, none⟩) N cap, .int .i64 a, .int .i64 m, .int .i64 b, .func (.func g) #[] cb] w fun e w' => e = .returned (.tuple #[]) ∧ SWK enc k w0 blk off (Ll ++ (mrg (ltOf cf) A B ++ Rr)).toArray w' := by
  have mixed := L.mixed; have t0 := L.t0; have a0 := L.a0; have z0 := L.z0; have v0 := L.v0; have t3 := L.t3; have a3 := L.a3; have z3 := L.z3; have v3 := L.v3; have t4 := L.t4; have a4 := L.a4; have z4 := L.z4; have v4 := L.v4; have ts := L.ts; have as22 := L.as22; have zs := L.zs; have vs := L.vs; have tf := L.tf; have af := L.af; have zf := L.zf; have vf := L.vf; have aE := L.aE; have zE := L.zE; have tu := L.tu; have au := L.au; have zu := L.zu; have vu := L.vu
  have e50 : ∀ args w, (callFunc 50 args).run P w = .ok (.enter 50 args) w := enters_of L.f4 (by kernel_rfl) rfl
  have e51 : ∀ args w, (callFunc 51 args).run P w = .ok (.enter 51 args) w := enters_of L.f5 (by kernel_rfl) rfl
  have HC : Aside (CmpLays P g cb enc k cf blk off d0.size w0) := hcmp
  obtain ⟨d, hd⟩ : ∃ d, d = (Ll ++ (A ++ (B ++ Rr))).toArray := ⟨_, rfl⟩
  rw [← hd] at S
  have S0 : Aside (SWK enc k w0 blk off d w) := S
  have hdN : d.size = N := by rw [hd]; simpa using hN
  have hbN : b ≤ N := by rw [← hN]; simp; omega
  have hend := fun mid p s s0 r0 h1 h2 h3 h4 h5 h6 h7 => sym_split hO Ll A B Rr (a := a) (m := m) (b := b) (mid := mid) (p := p) (s := s) (s0 := s0) (r0 := r0) hd ha hm hb (by omega) (by omega) h1 h2 h3 h4 h5 h6 h7 hA hB
  have HE : Aside (∀ mid p s s0 r0 : Nat, mid = (a + b) / 2 → p = mid + m - 1 → ((m ≤ mid ∧ s0 = a ∧ r0 = m) ∨ (mid < m ∧ s0 = mid + m - b ∧ r0 = mid)) → s0 ≤ s → s ≤ r0 → (s = s0 ∨ ltOf cf d[p - (s - 1)]! d[s - 1]! = false) → (s = r0 ∨ ltOf cf d[p - s]! d[s]! = true) →
    ∃ A1 A2 B1 B2, A = A1 ++ A2 ∧ B = B1 ++ B2 ∧ A1.length = s - a ∧ B1.length = mid - s ∧ a ≤ s ∧ s ≤ m ∧ s ≤ mid ∧ mid + m - s ≤ b ∧ mrg (ltOf cf) A B = mrg (ltOf cf) A1 B1 ++ mrg (ltOf cf) A2 B2) := hend
  have IH : Aside (SymSays P enc k cf g cb blk off cap N d0 w0 s) := ih
  have HDL : Hid (d = (Ll ++ (A ++ (B ++ Rr))).toArray) := hd
  have HD : Hid (d.size = N) := hdN
  have HD0 : Hid (d0.size = N) := hN0
  have hm1 : a + 2 ≤ m := by omega
  have hm2 : m + 2 ≤ b := by omega
  have HA : Aside (a = Ll.length ∧ m = a + A.length ∧ b = m + B.length ∧ Sd (ltOf cf) A ∧ Sd (ltOf cf) B) := ⟨ha, hm, hb, hA, hB⟩
  clear S hcmp hend hd ha hm hb hA2 hB2 hA hB hN0 hN hdN ih
  obtain ⟨mid, hmid⟩ : ∃ mid, (a + b) / 2 = mid := ⟨_, rfl⟩
  have HM : Hid (mid = (a + b) / 2) := hmid.symm
  have ekm : ((a : Int) + (b : Int)) / 2 = (mid : Int) := by omega
  have hmid1 : a < mid := by omega
  have hmid2 : mid < b := by omega
  have hmid3 : 2 * mid ≤ a + b := by omega
  have hmid4 : a + b ≤ 2 * mid + 1 := by omega
  clear hmid
  have hm3 : ¬ (m : Int) - (a : Int) = 1 := by omega
  have hm3' : ((m : Int) - (a : Int) == 1) = false := by simpa using hm3
  have hm5 : ¬ (b : Int) - (m : Int) = 1 := by omega
  have hm5' : ((b : Int) - (m : Int) == 1) = false := by simpa using hm5
  obtain ⟨n, hn1, hn2⟩ : ∃ n, n ≤ mid + m ∧ mid + m ≤ n := ⟨mid + m, Nat.le_refl _, Nat.le_refl _⟩
  have hni : (mid : Int) + (m : Int) = (n : Int) := by omega
  obtain ⟨p, hp1, hp2⟩ : ∃ p, p + 1 ≤ n ∧ n ≤ p + 1 := ⟨n - 1, by omega, by omega⟩
  have hpi : (n : Int) - 1 = (p : Int) := by omega
  go_enter L.f4, Try.ntmps50
  go_upto_if 140 with (fail)
  go_cut [20, 21] from 140 (fun v20 v21 wx => ∃ s0 r0 : Nat, v20 = .int .i64 s0 ∧ v21 = .int .i64 r0 ∧ ((m ≤ mid ∧ s0 = a ∧ r0 = m) ∨ (mid < m ∧ s0 = mid + m - b ∧ r0 = mid)) ∧ wx = w)
  case first =>
    by_cases hmm : mid < m
    · have hz : (mid : Int) < (m : Int) := by omega
      go_wp2_with fail
      go_meet
      case rel => exact ⟨n - b, mid, by go_num, rfl, Or.inr ⟨hmm, by omega, rfl⟩, rfl⟩
    · have hz : ¬ (mid : Int) < (m : Int) := by omega
      go_wp2_with fail
      go_meet
      case rel => exact ⟨a, m, rfl, rfl, Or.inl ⟨by omega, rfl, rfl⟩, rfl⟩
  case rest =>
    obtain ⟨s0, r0, rfl, rfl, hcase, rfl⟩ := hcut
    have hs0 : a ≤ s0 ∧ s0 ≤ r0 ∧ r0 ≤ m ∧ r0 ≤ mid ∧ n ≤ b + s0 := by omega
    have HK : Hid ((m ≤ mid ∧ s0 = a ∧ r0 = m) ∨ (mid < m ∧ s0 = mid + m - b ∧ r0 = mid)) := hcase
    clear hcase
    obtain ⟨q1, q2, q3, q4, q5⟩ := hs0
    go_wp2_with fail
    go_loopw [20, 21] (fun s10 s11 wr => ∃ (i j : Nat), s10 = .int .i64 i ∧ s11 = .int .i64 j ∧ s0 ≤ i ∧ i ≤ j ∧ j ≤ r0 ∧ Aside (SWK enc k w0 blk off d wr) ∧ Hid (i = s0 ∨ ltOf cf d[p - (i - 1)]! d[i - 1]! = false) ∧ Hid (j = r0 ∨ ltOf cf d[p - j]! d[j]! = true))
      (fun vi vj _ => (intOf vj).toNat - (intOf vi).toNat)
    case atStart => exact ⟨s0, r0, rfl, rfl, by omega, by omega, by omega, S0, Or.inl rfl, Or.inl rfl⟩
    case round =>
      clear S0
      obtain ⟨i, j, rfl, rfl, hai, hij, hjb, SU, hI, hJ⟩ := hrel
      by_cases hlt : i < j
      · have hltz : (i : Int) < (j : Int) := by omega
        obtain ⟨h, hh⟩ : ∃ h, (i + j) / 2 = h := ⟨_, rfl⟩
        have e1 : i ≤ h := by omega
        have e2 : h < j := by omega
        have ek : ((i : Int) + (j : Int)) / 2 = (h : Int) := by omega
        clear hh
        obtain ⟨c, hc1, hc2⟩ : ∃ c, c + h ≤ p ∧ p ≤ c + h := ⟨p - h, by omega, by omega⟩
        have hci : (p : Int) - (h : Int) = (c : Int) := by omega
        have ea1 : ((h : Int)).toNat = h := by omega
        have pa1 : (0 : Int) ≤ (h : Int) := by omega
        have ba1 : (h : Int) < (N : Int) := by omega
        have ra1 : IntKind.i64.wrap ((h : Int)) = (h : Int) := by rw [IntKind.wrap_i64]; omega
        have ec1 : ((c : Int)).toNat = c := by omega
        have pc1 : (0 : Int) ≤ (c : Int) := by omega
        have bc1 : (c : Int) < (N : Int) := by omega
        have rc1 : IntKind.i64.wrap ((c : Int)) = (c : Int) := by rw [IntKind.wrap_i64]; omega
        obtain ⟨y1, hy1⟩ : ∃ x, x = d[c]! := ⟨_, rfl⟩
        obtain ⟨y2, hy2⟩ : ∃ x, x = d[h]! := ⟨_, rfl⟩
        have l1a := SU.out.ld R (by rw [HD.out, HD0.out]) P c (by rw [HD.out]; omega)
        have l1b := SU.out.ld R (by rw [HD.out, HD0.out]) P h (by rw [HD.out]; omega)
        rw [← hy1] at l1a
        rw [← hy2] at l1b
        have hcc := SU.out.cmp HC.out (by rw [HD.out, HD0.out]) y1 y2
        by_cases hv : cf y1 y2 < 0
        · have hd1 : decide (cf y1 y2 < 0) = true := decide_eq_true hv
          have HI : Hid (ltOf cf d[p - h]! d[h]! = true) := by show _ = _; rw [show p - h = c by omega, ← hy1, ← hy2]; exact hd1
          clear hy1 hy2
          go_wp2_with fail
          go_quiet_grown (first | (go_at_fn g; refine Calls.grown_of (hcc _ _)))
          have SU2 : Aside (SWK enc k w0 blk off d (grow (wr.drewN nq) osq)) := SU.out.grown nq osq
          clear l1a l1b hcc SU
          generalize grow (wr.drewN nq) osq = wu2 at SU2 ⊢
          clear nq osq
          go_wp2_with fail
          go_roundw
          case rel => exact ⟨i, h, rfl, rfl, hai, by omega, by omega, SU2, hI, Or.inr HI.out⟩
          case measure => simp [intOf]; omega
        · have hd1 : decide (cf y1 y2 < 0) = false := decide_eq_false hv
          have HI : Hid (ltOf cf d[p - h]! d[h]! = false) := by show _ = _; rw [show p - h = c by omega, ← hy1, ← hy2]; exact hd1
          clear hy1 hy2
          go_wp2_with fail
          go_quiet_grown (first | (go_at_fn g; refine Calls.grown_of (hcc _ _)))
          have SU2 : Aside (SWK enc k w0 blk off d (grow (wr.drewN nq) osq)) := SU.out.grown nq osq
          clear l1a l1b hcc SU
          generalize grow (wr.drewN nq) osq = wu2 at SU2 ⊢
          clear nq osq
          go_wp2_with fail
          go_roundw
          case rel => exact ⟨h + 1, j, by go_num, rfl, by omega, by omega, hjb, SU2, Or.inr HI.out, hJ⟩
          case measure => simp [intOf]; omega
      · obtain rfl : i = j := by omega
        have hltz : ¬ (i : Int) < (i : Int) := by omega
        obtain ⟨A1, A2, B1, B2, hAe, hBe, hl1, hl2, p1, p2, p3, p4, hM⟩ := HE.out mid p i s0 r0 HM.out (by omega) HK.out hai hjb hI.out hJ.out
        obtain ⟨hLl, hmA, hbB, hSA, hSB⟩ := HA.out
        rw [hAe] at hSA hmA
        rw [hBe] at hSB hbB
        rw [List.length_append] at hmA hbB
        have hS1 := List.pairwise_append.1 hSA
        have hS2 := List.pairwise_append.1 hSB
        obtain ⟨en, hen1, hen2⟩ : ∃ en, en + i ≤ n ∧ n ≤ en + i := ⟨n - i, by omega, by omega⟩
        have heni : (n : Int) - (i : Int) = (en : Int) := by omega
        have hend : d = (Ll ++ (A1 ++ (A2 ++ (B1 ++ (B2 ++ Rr))))).toArray := by rw [HDL.out, hAe, hBe]; simp
        -- the row behind the turning
        have SR : Aside (∀ wx, SWK enc k w0 blk off d wx → i < m → m < en → Calls P 51 #[.slice (some ⟨blk, off, none⟩) N cap, .int .i64 i, .int .i64 m, .int .i64 en, .func (.func g) #[] cb] wx fun e w' => e = .returned (.tuple #[]) ∧ SWK enc k w0 blk off (Ll ++ (A1 ++ (B1 ++ (A2 ++ (B2 ++ Rr))))).toArray w') := fun wx hx h1 h2 => by
          have hr := L.rotate enc g cb blk off cap i m en d0 d w0 wx R (by rw [HD.out, HD0.out]) hx h1 h2 (by rw [HD.out]; omega) (by rw [HD.out]; exact hsz)
          rw [HD.out] at hr
          refine hr.mono ?_
          rintro e w' ⟨he, hw, _⟩
          refine ⟨he, ?_⟩
          have hrl := rot_list (m - i + (en - m)) (Ll ++ A1) A2 B1 (B2 ++ Rr) (m := m) (i := m - i) (j := en - m) (Nat.le_refl _) (by omega) (by omega) (by omega) (by omega) (by rw [List.length_append]; omega)
          rw [hend, show Ll ++ (A1 ++ (A2 ++ (B1 ++ (B2 ++ Rr)))) = Ll ++ A1 ++ (A2 ++ (B1 ++ (B2 ++ Rr))) by simp, hrl] at hw
          rw [show Ll ++ (A1 ++ (B1 ++ (A2 ++ (B2 ++ Rr)))) = Ll ++ A1 ++ (B1 ++ (A2 ++ (B2 ++ Rr))) by simp]
          exact hw
        have SR0 : Aside (∀ wx, SWK enc k w0 blk off d wx → ¬ (i < m ∧ m < en) → SWK enc k w0 blk off (Ll ++ (A1 ++ (B1 ++ (A2 ++ (B2 ++ Rr))))).toArray wx) := fun wx hx hno => by
          rw [hend] at hx
          have : A2 = [] ∨ B1 = [] := by
            by_cases h1 : i < m
            · right; exact List.length_eq_zero_iff.1 (by omega)
            · left; exact List.length_eq_zero_iff.1 (by omega)
          rcases this with rfl | rfl
          · simpa using hx
          · simpa using hx
        have hNl : (Ll ++ (A1 ++ (B1 ++ (A2 ++ (B2 ++ Rr))))).length = N := by
          have := HD.out
          rw [hend] at this
          simp only [List.size_toArray, List.length_append] at this ⊢
          omega
        have SL : Aside (∀ wx, SWK enc k w0 blk off (Ll ++ (A1 ++ (B1 ++ (A2 ++ (B2 ++ Rr))))).toArray wx → a < i → i < mid → Calls P 50 #[.slice (some ⟨blk, off, none⟩) N cap, .int .i64 a, .int .i64 i, .int .i64 mid, .func (.func g) #[] cb] wx fun e w' => e = .returned (.tuple #[]) ∧ SWK enc k w0 blk off (Ll ++ (mrg (ltOf cf) A1 B1 ++ (A2 ++ (B2 ++ Rr)))).toArray w') := fun wx hx h1 h2 =>
          IH.out Ll A1 B1 (A2 ++ (B2 ++ Rr)) a i mid wx hNl hLl (by omega) (by omega) (by omega) (by omega) (by omega) hS1.1 hS2.1 hx
        have SL0 : Aside (∀ wx, SWK enc k w0 blk off (Ll ++ (A1 ++ (B1 ++ (A2 ++ (B2 ++ Rr))))).toArray wx → ¬ (a < i ∧ i < mid) → SWK enc k w0 blk off (Ll ++ (mrg (ltOf cf) A1 B1 ++ (A2 ++ (B2 ++ Rr)))).toArray wx) := fun wx hx hno => by
          have : A1 = [] ∨ B1 = [] := by
            by_cases h1 : a < i
            · right; exact List.length_eq_zero_iff.1 (by omega)
            · left; exact List.length_eq_zero_iff.1 (by omega)
          rcases this with rfl | rfl
          · rw [nil_mrg]; simpa using hx
          · rw [mrg_nil]; simpa using hx
        have hlm := mrg_len (ltOf cf) A1 B1
        have SQ : Aside (∀ wx, SWK enc k w0 blk off (Ll ++ (mrg (ltOf cf) A1 B1 ++ (A2 ++ (B2 ++ Rr)))).toArray wx → mid < en → en < b → Calls P 50 #[.slice (some ⟨blk, off, none⟩) N cap, .int .i64 mid, .int .i64 en, .int .i64 b, .func (.func g) #[] cb] wx fun e w' => e = .returned (.tuple #[]) ∧ SWK enc k w0 blk off (Ll ++ (mrg (ltOf cf) A B ++ Rr)).toArray w') := fun wx hx h1 h2 => by
          rw [hM, show Ll ++ (mrg (ltOf cf) A1 B1 ++ mrg (ltOf cf) A2 B2 ++ Rr) = (Ll ++ mrg (ltOf cf) A1 B1) ++ (mrg (ltOf cf) A2 B2 ++ Rr) by simp]
          rw [show Ll ++ (mrg (ltOf cf) A1 B1 ++ (A2 ++ (B2 ++ Rr))) = (Ll ++ mrg (ltOf cf) A1 B1) ++ (A2 ++ (B2 ++ Rr)) by simp] at hx
          exact IH.out (Ll ++ mrg (ltOf cf) A1 B1) A2 B2 Rr mid en b wx (by simp only [List.length_append] at hNl ⊢; omega) (by simp only [List.length_append]; omega) (by omega) (by omega) (by omega) (by omega) (by omega) hS1.2.1 hS2.2.1 hx
        have SQ0 : Aside (∀ wx, SWK enc k w0 blk off (Ll ++ (mrg (ltOf cf) A1 B1 ++ (A2 ++ (B2 ++ Rr)))).toArray wx → ¬ (mid < en ∧ en < b) → SWK enc k w0 blk off (Ll ++ (mrg (ltOf cf) A B ++ Rr)).toArray wx) := fun wx hx hno => by
          rw [hM]
          have : A2 = [] ∨ B2 = [] := by
            by_cases h1 : mid < en
            · right; exact List.length_eq_zero_iff.1 (by omega)
            · left; exact List.length_eq_zero_iff.1 (by omega)
          rcases this with rfl | rfl
          · rw [nil_mrg]; simpa using hx
          · rw [mrg_nil]; simpa using hx
        clear hM hSA hSB hS1 hS2 hmA hbB hAe hBe hend hNl hlm hl1 hl2 hLl
        go_upto_region 39 with (fail)
        go_cut [185] from 178 (fun t wx => t = .bool (decide (i < m ∧ m < en)) ∧ wx = wr)
        case first =>
          by_cases h1 : i < m
          · have h1z : (i : Int) < (m : Int) := by omega
            by_cases h2 : m < en
            · have h2z : (m : Int) < (en : Int) := by omega
              go_wp2_with fail
              go_meet
              case rel => exact ⟨by simp [h1, h2], rfl⟩
            · have h2z : ¬ (m : Int) < (en : Int) := by omega
              go_wp2_with fail
              go_meet
              case rel => exact ⟨by simp [h2], rfl⟩
          · have h1z : ¬ (i : Int) < (m : Int) := by omega
            go_wp2_with fail
            go_meet
            case rel => exact ⟨by simp [h1], rfl⟩
        case rest =>
          obtain ⟨rfl, rfl⟩ := hcut
          go_upto_if 185 with (fail)
          go_cut [18] from 178 (fun t wx => t = .int .i64 mid ∧ Aside (SWK enc k w0 blk off (Ll ++ (A1 ++ (B1 ++ (A2 ++ (B2 ++ Rr))))).toArray wx))
          case first =>
            by_cases hcc : i < m ∧ m < en
            · have hdec : decide (i < m ∧ m < en) = true := decide_eq_true hcc
              have hcall := SR.out _ SU.out hcc.1 hcc.2
              go_wp2_with (first | (go_at_fn 51; refine hcall.mono ?_; rintro e w2 ⟨rfl, S2⟩))
              go_meet
              case rel => exact ⟨rfl, S2⟩
            · have hdec : decide (i < m ∧ m < en) = false := decide_eq_false hcc
              have S2 := SR0.out _ SU.out hcc
              go_wp2_with fail
              go_meet
              case rel => exact ⟨rfl, S2⟩
          case rest =>
            obtain ⟨rfl, S2⟩ := hcut
            clear SR SR0 SU
            go_upto_region 41 with (fail)
            go_cut [199] from 178 (fun t wx => t = .bool (decide (a < i ∧ i < mid)) ∧ wx = wc)
            case first =>
              by_cases h1 : a < i
              · have h1z : (a : Int) < (i : Int) := by omega
                by_cases h2 : i < mid
                · have h2z : (i : Int) < (mid : Int) := by omega
                  go_wp2_with fail
                  go_meet
                  case rel => exact ⟨by simp [h1, h2], rfl⟩
                · have h2z : ¬ (i : Int) < (mid : Int) := by omega
                  go_wp2_with fail
                  go_meet
                  case rel => exact ⟨by simp [h2], rfl⟩
              · have h1z : ¬ (a : Int) < (i : Int) := by omega
                go_wp2_with fail
                go_meet
                case rel => exact ⟨by simp [h1], rfl⟩
            case rest =>
              obtain ⟨rfl, rfl⟩ := hcut
              go_upto_if 199 with (fail)
              go_cut [18] from 178 (fun t wx => t = .int .i64 mid ∧ Aside (SWK enc k w0 blk off (Ll ++ (mrg (ltOf cf) A1 B1 ++ (A2 ++ (B2 ++ Rr)))).toArray wx))
              case first =>
                by_cases hcc : a < i ∧ i < mid
                · have hdec : decide (a < i ∧ i < mid) = true := decide_eq_true hcc
                  have hcall := SL.out _ S2.out hcc.1 hcc.2
                  go_wp2_with (first | (go_at_fn 50; refine hcall.mono ?_; rintro e w3 ⟨rfl, S3⟩))
                  go_meet
                  case rel => exact ⟨rfl, S3⟩
                · have hdec : decide (a < i ∧ i < mid) = false := decide_eq_false hcc
                  have S3 := SL0.out _ S2.out hcc
                  go_wp2_with fail
                  go_meet
                  case rel => exact ⟨rfl, S3⟩
              case rest =>
                obtain ⟨rfl, S3⟩ := hcut
                clear SL SL0 S2
                by_cases h1 : mid < en
                · have h1z : (mid : Int) < (en : Int) := by omega
                  by_cases h2 : en < b
                  · have h2z : (en : Int) < (b : Int) := by omega
                    have hcall := SQ.out _ S3.out h1 h2
                    go_wp2_with (first | (go_at_fn 50; refine hcall.mono ?_; rintro e w4 ⟨rfl, S4⟩))
                    go_end0
                    exact ⟨rfl, S4⟩
                  · have h2z : ¬ (en : Int) < (b : Int) := by omega
                    have S4 := SQ0.out _ S3.out (fun h => h2 h.2)
                    go_wp2_with fail
                    go_end0
                    exact ⟨rfl, S4⟩
                · have h1z : ¬ (mid : Int) < (en : Int) := by omega
                  have S4 := SQ0.out _ S3.out (fun h => h1 h.1)
                  go_wp2_with fail
                  go_end0
                  exact ⟨rfl, S4⟩

theorem SortProg.symMerge {k : Nat} (L : SortProg P k) (enc : α → List Value) (cf : α → α → Int) (hO : SWO (ltOf cf)) (g : Nat) (cb : Array Value) (blk off cap N : Nat) (d0 : Array α) (w0 : World)
    (eg : ∀ args w, (callFunc g args).run P w = .ok (.enter g args) w) (hcmp : CmpLays P g cb enc k cf blk off d0.size w0) (R : RowK enc k w0 blk off d0) (hN0 : d0.size = N) (hsz : N < 4611686018427387904) : ∀ s, SymSays P enc k cf g cb blk off cap N d0 w0 s := by
  intro s
  induction s with
  | zero => intro Ll A B Rr a m b w _ _ _ _ _ _ _; omega
  | succ s ih =>
    intro Ll A B Rr a m b w hN ha hm hb hs hA0 hB0 hA hB S
    by_cases h1 : A.length = 1
    · obtain ⟨x, rfl⟩ := List.length_eq_one_iff.1 h1
      exact L.symLeft enc cf hO g cb blk off cap a m b N d0 _ w0 w eg hcmp R hN0 (by simpa using hN) hsz S Ll B Rr x rfl ha (by simpa using hm) hb hB
    · by_cases h2 : B.length = 1
      · obtain ⟨y, rfl⟩ := List.length_eq_one_iff.1 h2
        exact L.symRight enc cf hO g cb blk off cap a m b N d0 _ w0 w eg hcmp R hN0 (by simpa using hN) hsz S Ll A Rr y rfl ha hm (by omega) (by simpa using hb) hA
      · exact L.symMany enc cf hO g cb blk off cap N d0 w0 eg hcmp R hN0 hsz s ih Ll A B Rr a m b w hN ha hm hb hs (by omega) (by omega) hA hB S
end Go.Proofs.Ytiomkbpniplfhaa
