/- The walks of 'slices.stableCmpFunc' and 'slices.SortStableFunc', at elements of k cells. -/
import Derived.Test.YtiomkbpniplfhaaSrtSym
import Derived.Test.YtiomkbpniplfhaaSrtBlocks
namespace Go.Proofs.Ytiomkbpniplfhaa
open Go.Shelf Go.RowKit Go.Lib Go.Sort
variable {P : Program} {α : Type} [Inhabited α]

theorem cmp_on {enc : α → List Value} {k : Nat} {w0 W : World} {blk off : Nat} {dk : Array α} {g : Nat} {cb : Array Value} {cf : α → α → Int} {size : Nat} (h : SWK enc k w0 blk off dk W) (hblk : blk < w0.heap.size) (hs : dk.size = size) (hC : CmpLays P g cb enc k cf blk off size w0) : CmpLays P g cb enc k cf blk off size W := by
  obtain ⟨n, os0, rfl⟩ := h
  intro m os dk' hs' x y
  obtain ⟨n2, os2, he⟩ : ∃ n2 os2, sortWorldK enc k (sortWorldK enc k w0 blk off n dk os0) blk off m dk' os = sortWorldK enc k w0 blk off n2 dk' os2 := ⟨_, _, sortWorldK_on enc k w0 blk off n m dk dk' os0 os hblk (by omega)⟩
  rw [he]
  exact hC n2 os2 dk' hs' x y
theorem size_insInner (lt : α → α → Bool) (a : Nat) : ∀ (j : Nat) (d : Array α), (insInner lt a j d).size = d.size := by
  intro j
  induction j with
  | zero => intro d; rfl
  | succ j ih =>
    intro d
    rw [insInner]
    split
    · rw [ih, size_swp]
    · rfl
theorem size_insOuter (lt : α → α → Bool) (a b : Nat) : ∀ (s i : Nat) (d : Array α), b - i ≤ s → (insOuter lt a b i d).size = d.size := by
  intro s
  induction s with
  | zero => intro i d h; rw [insOuter_stop _ _ _ _ _ (by omega)]
  | succ s ih =>
    intro i d h
    by_cases hi : i < b
    · rw [insOuter_go _ _ _ _ _ hi, ih _ _ (by omega), size_insInner]
    · rw [insOuter_stop _ _ _ _ _ hi]
theorem size_insertionSort (lt : α → α → Bool) (d : Array α) (a b : Nat) : (Sort.insertionSort lt d a b).size = d.size := size_insOuter lt a b _ _ d (Nat.le_refl _)
theorem SortProg.insertionS {k : Nat} (L : SortProg P k) (enc : α → List Value) (cf : α → α → Int) (g : Nat) (cb : Array Value) (blk off cap a b N : Nat) (d0 d : Array α) (w0 w : World)
    (eg : ∀ args w, (callFunc g args).run P w = .ok (.enter g args) w) (hcmp : CmpLays P g cb enc k cf blk off d0.size w0) (R : RowK enc k w0 blk off d0) (hN0 : d0.size = N) (hN : d.size = N) (hsz : N < 4611686018427387904) (S : SWK enc k w0 blk off d w) (hab : a ≤ b) (hb : b ≤ N) :
    Calls P 49 #[.slice (some ⟨blk, off, none⟩) N cap, .int .i64 a, .int .i64 b, .func (.func g) #[] cb] w fun e w' => e = .returned (.tuple #[]) ∧ SWK enc k w0 blk off (Sort.insertionSort (ltOf cf) d a b) w' ∧ (Sort.insertionSort (ltOf cf) d a b).size = N := by
  subst hN
  refine (L.insertion enc R.hk R.h1 cf g cb blk off cap a b d w eg (cmp_on S R.hblk rfl (by rw [hN0] at hcmp; exact hcmp)) (S.holds R.hblk R.hH hN0.symm) (S.lt R.hblk) hab hb hsz).mono ?_
  rintro e w' ⟨he, n, os, hw⟩
  have hsz2 : (Sort.insertionSort (ltOf cf) d a b).size = d.size := size_insertionSort _ _ _ _
  exact ⟨he, by rw [hw]; exact S.on R.hblk n _ os hsz2, hsz2⟩

set_option maxHeartbeats 16000000 in
set_option maxRecDepth 1000000 in
theorem SortProg.stable {k : Nat} (L : SortProg P k) (enc : α → List Value) (cf : α → α → Int) (hO : SWO (ltOf cf)) (g : Nat) (cb : Array Value) (blk off cap N : Nat) (d0 : Array α) (w0 w : World)
    (eg : ∀ args w, (callFunc g args).run P w = .ok (.enter g args) w) (hcmp : CmpLays P g cb enc k cf blk off d0.size w0) (R : RowK enc k w0 blk off d0) (hN0 : d0.size = N) (hsz : N ≤ 1000000) (D : List α) (hD : D.length = N) (S : SWK enc k w0 blk off D.toArray w) :
    Calls P 47 #[.slice (some ⟨blk, off, none⟩) N cap, .int .i64 N, .func (.func g) #[] cb] w fun e w' => e = .returned (.tuple #[]) ∧ ∃ T, SWK enc k w0 blk off (List.toArray T) w' ∧ T.length = N ∧ Stab (ltOf cf) T D := by
  have mixed := L.mixed; have t0 := L.t0; have a0 := L.a0; have z0 := L.z0; have v0 := L.v0; have t3 := L.t3; have a3 := L.a3; have z3 := L.z3; have v3 := L.v3; have t4 := L.t4; have a4 := L.a4; have z4 := L.z4; have v4 := L.v4; have ts := L.ts; have as22 := L.as22; have zs := L.zs; have vs := L.vs; have tf := L.tf; have af := L.af; have zf := L.zf; have vf := L.vf; have aE := L.aE; have zE := L.zE
  have e49 : ∀ args w, (callFunc 49 args).run P w = .ok (.enter 49 args) w := enters_of L.f3 (by kernel_rfl) rfl
  have e50 : ∀ args w, (callFunc 50 args).run P w = .ok (.enter 50 args) w := enters_of L.f4 (by kernel_rfl) rfl
  have INS : Aside (∀ (a b : Nat) (dk : List α) (wx : World), dk.length = N → SWK enc k w0 blk off dk.toArray wx → a ≤ b → b ≤ N → Calls P 49 #[.slice (some ⟨blk, off, none⟩) N cap, .int .i64 a, .int .i64 b, .func (.func g) #[] cb] wx fun e w' => e = .returned (.tuple #[]) ∧ SWK enc k w0 blk off (Sort.insertionSort (ltOf cf) dk.toArray a b) w') := fun a b dk wx h1 h2 h3 h4 =>
    (L.insertionS enc cf g cb blk off cap a b N d0 dk.toArray w0 wx eg hcmp R hN0 (by simpa using h1) (by omega) h2 h3 h4).mono (by rintro e w' ⟨h1, h2, _⟩; exact ⟨h1, h2⟩)
  have SYM : Aside (∀ s, SymSays P enc k cf g cb blk off cap N d0 w0 s) := L.symMerge enc cf hO g cb blk off cap N d0 w0 eg hcmp R hN0 (by omega)
  have S0 : Aside (SWK enc k w0 blk off D.toArray w) := S
  have HDl : Hid (D.length = N) := hD
  clear S hcmp R hN0 hD
  go_enter L.f2, Try.ntmps47
  go_wp2_with fail
  go_loopw [7, 8] (fun s7 s8 wr => ∃ (q a b : Nat) (dk : List α), s7 = .int .i64 a ∧ s8 = .int .i64 b ∧ a ≤ N ∧ a + 20 ≤ b ∧ b ≤ a + 20 ∧ Hid (a = q * 20) ∧ Hid (dk.length = N) ∧ Aside (SWK enc k w0 blk off dk.toArray wr) ∧
      Hid (dk.drop a = D.drop a) ∧ Aside (∀ j, j < q → Stab (ltOf cf) (seg dk (j * 20) 20) (seg D (j * 20) 20)))
    (fun vi _ _ => N + 1 - (intOf vi).toNat)
  case atStart => exact ⟨0, 0, 20, D, rfl, rfl, by omega, by omega, by omega, rfl, HDl, S0, rfl, fun j h => by omega⟩
  case round =>
    clear S0
    obtain ⟨q, a, b, dk, rfl, rfl, haN, hab1, hab2, hq, hdl, SU, hdr, hst⟩ := hrel
    by_cases hlt : b ≤ N
    · have hltz : (b : Int) ≤ (N : Int) := by omega
      have hcall := INS.out a b dk wr hdl.out SU.out (by omega) hlt
      have HB : Aside (∃ dk', insertionSort (ltOf cf) dk.toArray a b = dk'.toArray ∧ dk'.length = N ∧ (∀ j, j < q + 1 → Stab (ltOf cf) (seg dk' (j * 20) 20) (seg D (j * 20) 20)) ∧ dk'.drop b = D.drop b) :=
        blk_insert hO hdl.out HDl.out hq.out (by omega) hlt (Or.inl (by omega)) hst.out hdr.out
      clear hst hdr SU
      go_wp2_with (first | (go_at_fn 49; refine hcall.mono ?_; rintro e w2 ⟨rfl, S2⟩))
      go_roundw
      case rel =>
        obtain ⟨dk', h1, h2, h3, h4⟩ := HB.out
        rw [h1] at S2
        exact ⟨q + 1, b, b + 20, dk', rfl, by go_num, hlt, by omega, by omega, by show _ = _; have := hq.out; omega, h2, S2, h4, h3⟩
      case measure => simp [intOf]; omega
    · have hltz : ¬ (b : Int) ≤ (N : Int) := by omega
      have hcall := INS.out a N dk wr hdl.out SU.out haN (Nat.le_refl _)
      have HB : Aside (∃ dk', insertionSort (ltOf cf) dk.toArray a N = dk'.toArray ∧ dk'.length = N ∧ (∀ j, Stab (ltOf cf) (seg dk' (j * 20) 20) (seg D (j * 20) 20))) := by
        obtain ⟨dk', h1, h2, h3, h4⟩ := blk_insert hO hdl.out HDl.out hq.out haN (Nat.le_refl _) (Or.inr ⟨rfl, by omega⟩) hst.out hdr.out
        exact ⟨dk', h1, h2, blk_all h2 HDl.out (by have := hq.out; omega) h3⟩
      clear hst hdr SU
      go_wp2_with (first | (go_at_fn 49; refine hcall.mono ?_; rintro e w2 ⟨rfl, S2⟩))
      obtain ⟨d1, h1, h2, h3⟩ := HB.out
      rw [h1] at S2
      have S2 : Aside (SWK enc k w0 blk off d1.toArray w2) := S2
      have h2 : Hid (d1.length = N) := h2
      have h3 : Aside (∀ j, Stab (ltOf cf) (seg d1 (j * 20) 20) (seg D (j * 20) 20)) := h3
      clear h1 HB hcall hdl hltz hlt
      go_loopw [6] (fun s6 wr => ∃ (bs : Nat) (dk : List α), s6 = .int .i64 bs ∧ 20 ≤ bs ∧ bs ≤ 2 * N + 20 ∧ Hid (dk.length = N) ∧ Aside (SWK enc k w0 blk off dk.toArray wr) ∧ Aside (∀ j, Stab (ltOf cf) (seg dk (j * bs) bs) (seg D (j * bs) bs)))
        (fun vi _ => 2 * N + 21 - (intOf vi).toNat)
      case atStart => exact ⟨20, d1, rfl, by omega, by omega, h2, S2, h3⟩
      case round =>
        clear S2 h2 h3
        obtain ⟨bs, dk, rfl, hb1, hb2, hdl, SU, hst⟩ := hrel
        by_cases hbn : bs < N
        · have hbz : (bs : Int) < (N : Int) := by omega
          obtain ⟨bb, hbb1, hbb2⟩ : ∃ bb, bb ≤ 2 * bs ∧ 2 * bs ≤ bb := ⟨2 * bs, Nat.le_refl _, Nat.le_refl _⟩
          have e1 : 2 * (bs : Int) = (bb : Int) := by omega
          have e2 : (bs : Int) * 2 = (bb : Int) := by omega
          have ebb : Hid (bb = 2 * bs) := by show _ = _; omega
          go_wp2_with fail
          go_loopw [7, 8] (fun s7 s8 wr => ∃ (q a b : Nat) (dk : List α), s7 = .int .i64 a ∧ s8 = .int .i64 b ∧ a ≤ N ∧ a + bb ≤ b ∧ b ≤ a + bb ∧ Hid (a = q * (2 * bs)) ∧ Hid (dk.length = N) ∧ Aside (SWK enc k w0 blk off dk.toArray wr) ∧
              Aside (∀ j, j < q → Stab (ltOf cf) (seg dk (j * (2 * bs)) (2 * bs)) (seg D (j * (2 * bs)) (2 * bs))) ∧ Aside (∀ j, 2 * q ≤ j → Stab (ltOf cf) (seg dk (j * bs) bs) (seg D (j * bs) bs)))
            (fun vi _ _ => N + 1 - (intOf vi).toNat)
          case atStart => exact ⟨0, 0, bb, dk, rfl, rfl, by omega, by omega, by omega, by show _ = _; omega, hdl, SU, fun j h => by omega, fun j _ => hst.out j⟩
          case round =>
            clear SU hst hdl dk
            obtain ⟨q, a, b, dk, rfl, rfl, haN, hab1, hab2, hq, hdl, SU, hst, hrs⟩ := hrel
            obtain ⟨m, hm1, hm2⟩ : ∃ m, m ≤ a + bs ∧ a + bs ≤ m := ⟨a + bs, Nat.le_refl _, Nat.le_refl _⟩
            have emz : (a : Int) + (bs : Int) = (m : Int) := by omega
            by_cases hlt : b ≤ N
            · have hltz : (b : Int) ≤ (N : Int) := by omega
              have HB : Aside (∃ dk', Calls P 50 #[.slice (some ⟨blk, off, none⟩) N cap, .int .i64 a, .int .i64 m, .int .i64 b, .func (.func g) #[] cb] wr (fun e w' => e = .returned (.tuple #[]) ∧ SWK enc k w0 blk off (List.toArray dk') w') ∧ dk'.length = N ∧
                  (∀ j, j < q + 1 → Stab (ltOf cf) (seg dk' (j * (2 * bs)) (2 * bs)) (seg D (j * (2 * bs)) (2 * bs))) ∧ (∀ j, 2 * (q + 1) ≤ j → Stab (ltOf cf) (seg dk' (j * bs) bs) (seg D (j * bs) bs))) := by
                obtain ⟨L1, A, B, R1, x1, x2, x3, x4, x5, x6, x7, x8, x9⟩ := blk_merge hO hdl.out HDl.out hq.out (m := m) (e := b) (by omega) (by omega) hlt (Or.inl (by omega)) hst.out hrs.out
                refine ⟨_, SYM.out (b - a) L1 A B R1 a m b wr (by rw [← x1]; exact hdl.out) x2 x3 x4 (Nat.le_refl _) (by omega) (by omega) x5 x6 (by rw [← x1]; exact SU.out), x7, x8, x9⟩
              clear SU hst hrs hdl
              obtain ⟨dk', hcall, y1, y2, y3⟩ := HB.out
              have Y1 : Hid (dk'.length = N) := y1
              have Y2 : Aside (∀ j, j < q + 1 → Stab (ltOf cf) (seg dk' (j * (2 * bs)) (2 * bs)) (seg D (j * (2 * bs)) (2 * bs))) := y2
              have Y3 : Aside (∀ j, 2 * (q + 1) ≤ j → Stab (ltOf cf) (seg dk' (j * bs) bs) (seg D (j * bs) bs)) := y3
              clear y1 y2 y3 HB
              go_wp2_with (first | (go_at_fn 50; refine hcall.mono ?_; rintro e w3 ⟨rfl, S3⟩))
              go_roundw
              case rel => exact ⟨q + 1, b, b + bb, dk', rfl, by go_num, hlt, by omega, by omega, by show _ = _; have := hq.out; have := ebb.out; rw [Nat.add_mul]; omega, Y1, S3, Y2, Y3⟩
              case measure => simp [intOf]; omega
            · have hltz : ¬ (b : Int) ≤ (N : Int) := by omega
              by_cases hmN : m < N
              · have hmz : (m : Int) < (N : Int) := by omega
                have HB : Aside (∃ dk', Calls P 50 #[.slice (some ⟨blk, off, none⟩) N cap, .int .i64 a, .int .i64 m, .int .i64 N, .func (.func g) #[] cb] wr (fun e w' => e = .returned (.tuple #[]) ∧ SWK enc k w0 blk off (List.toArray dk') w') ∧ dk'.length = N ∧
                    (∀ j, Stab (ltOf cf) (seg dk' (j * bb) bb) (seg D (j * bb) bb))) := by
                  obtain ⟨L1, A, B, R1, x1, x2, x3, x4, x5, x6, x7, x8, x9⟩ := blk_merge hO hdl.out HDl.out hq.out (m := m) (e := N) (by omega) hmN (Nat.le_refl _) (Or.inr ⟨rfl, by omega⟩) hst.out hrs.out
                  refine ⟨_, SYM.out (N - a) L1 A B R1 a m N wr (by rw [← x1]; exact hdl.out) x2 x3 x4 (Nat.le_refl _) (by omega) (by omega) x5 x6 (by rw [← x1]; exact SU.out), x7, ?_⟩
                  rw [ebb.out]
                  exact blk_all x7 HDl.out (by have := hq.out; rw [Nat.add_mul]; omega) x8
                clear SU hst hrs hdl
                obtain ⟨dk', hcall, y1, y2⟩ := HB.out
                have Y1 : Hid (dk'.length = N) := y1
                have Y2 : Aside (∀ j, Stab (ltOf cf) (seg dk' (j * bb) bb) (seg D (j * bb) bb)) := y2
                clear y1 y2 HB
                go_wp2_with (first | (go_at_fn 50; refine hcall.mono ?_; rintro e w3 ⟨rfl, S3⟩))
                go_roundw
                case rel => exact ⟨bb, dk', rfl, by omega, by omega, Y1, S3, Y2⟩
                case measure => simp [intOf]; omega
              · have hmz : ¬ (m : Int) < (N : Int) := by omega
                have Y2 : Aside (∀ j, Stab (ltOf cf) (seg dk (j * bb) bb) (seg D (j * bb) bb)) := by
                  show ∀ j, _
                  rw [ebb.out]
                  exact blk_all hdl.out HDl.out (by have := hq.out; rw [Nat.add_mul]; omega) (blk_lone hdl.out HDl.out hq.out (by omega) hst.out hrs.out)
                clear hst hrs
                go_wp2_with fail
                go_roundw
                case rel => exact ⟨bb, dk, rfl, by omega, by omega, hdl, SU, Y2⟩
                case measure => simp [intOf]; omega
        · have hbz : ¬ (bs : Int) < (N : Int) := by omega
          go_wp2_with fail
          go_end0
          exact ⟨rfl, dk, SU.out, hdl.out, blk_end hdl.out HDl.out (by omega) hst.out⟩
set_option maxRecDepth 1000000 in
theorem SortProg.sortStable {k : Nat} (L : SortProg P k) (enc : α → List Value) (cf : α → α → Int) (hO : SWO (ltOf cf)) (g : Nat) (cb : Array Value) (blk off cap N : Nat) (d0 : Array α) (w0 w : World)
    (eg : ∀ args w, (callFunc g args).run P w = .ok (.enter g args) w) (hcmp : CmpLays P g cb enc k cf blk off d0.size w0) (R : RowK enc k w0 blk off d0) (hN0 : d0.size = N) (hsz : N ≤ 1000000) (D : List α) (hD : D.length = N) (S : SWK enc k w0 blk off D.toArray w) :
    Calls P 37 #[.slice (some ⟨blk, off, none⟩) N cap, .func (.func g) #[] cb] w fun e w' => e = .returned (.tuple #[]) ∧ ∃ T, SWK enc k w0 blk off (List.toArray T) w' ∧ T.length = N ∧ Stab (ltOf cf) T D := by
  have hcall := L.stable enc cf hO g cb blk off cap N d0 w0 w eg hcmp R hN0 hsz D hD S
  have mixed := L.mixed; have t0 := L.t0; have a0 := L.a0; have z0 := L.z0; have v0 := L.v0; have t3 := L.t3; have a3 := L.a3; have z3 := L.z3; have v3 := L.v3; have ts := L.ts; have as22 := L.as22; have zs := L.zs; have vs := L.vs; have tf := L.tf; have af := L.af; have zf := L.zf; have vf := L.vf
  have e47 : ∀ args w, (callFunc 47 args).run P w = .ok (.enter 47 args) w := enters_of L.f2 (by kernel_rfl) rfl
  clear S hcmp R
  go_enter L.f1, Try.ntmps37
  go_wp2_with (first | (go_at_fn 47; refine hcall.mono ?_; rintro e w2 ⟨rfl, T, h1, h2, h3⟩))
  go_end0
  exact ⟨rfl, T, h1, h2, h3⟩
end Go.Proofs.Ytiomkbpniplfhaa
