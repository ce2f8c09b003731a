/- The walks of 'slices.swapRangeCmpFunc' and 'slices.rotateCmpFunc', at elements of k cells. -/
import Derived.Test.YtiomkbpniplfhaaSrtLay
import Derived.Test.YtiomkbpniplfhaaSrtDefs
import Derived.Sort.WalkB2
import Derived.Sort.WalkB12
import Derived.Deep.LoopGhost
namespace Go.Proofs.Ytiomkbpniplfhaa
open Go.Shelf Go.RowKit Go.Lib Go.Sort
variable {P : Program} {α : Type} [Inhabited α]

set_option maxHeartbeats 4000000 in
set_option maxRecDepth 1000000 in
theorem SortProg.swapRange {k : Nat} (L : SortProg P k) (enc : α → List Value) (g : Nat) (cb : Array Value) (blk off cap a b n : Nat) (d0 d : Array α) (w0 w : World)
    (R : RowK enc k w0 blk off d0) (hs : d0.size = d.size) (S : SWK enc k w0 blk off d w) (ha : a + n ≤ d.size) (hb : b + n ≤ d.size) (hsz : d.size < 4611686018427387904) :
    Calls P 52 #[.slice (some ⟨blk, off, none⟩) d.size cap, .int .i64 a, .int .i64 b, .int .i64 n, .func (.func g) #[] cb] w fun e w' => e = .returned (.tuple #[]) ∧ SWK enc k w0 blk off (swapR d a b n) w' ∧ (swapR d a b n).size = d.size := by
  have mixed := L.mixed; have t0 := L.t0; have a0 := L.a0; have z0 := L.z0; have v0 := L.v0; have t3 := L.t3; have a3 := L.a3; have z3 := L.z3; have v3 := L.v3; have t4 := L.t4; have a4 := L.a4; have z4 := L.z4; have v4 := L.v4; have ts := L.ts; have as22 := L.as22; have zs := L.zs; have vs := L.vs; have tf := L.tf; have af := L.af; have zf := L.zf; have vf := L.vf; have aE := L.aE; have zE := L.zE
  have S0 : Aside (SWK enc k w0 blk off d w) := S
  clear S
  go_enter L.f6, Try.ntmps52
  go_wp2
  go_loopg [10] n (fun kx s10 wr => ∃ (i : Nat) (dk : Array α), s10 = .int .i64 i ∧ i ≤ n ∧ n - i ≤ kx ∧
    dk.size = d.size ∧ Aside (SWK enc k w0 blk off dk wr) ∧ Hid (swapR dk (a + i) (b + i) (n - i) = swapR d a b n))
  case atStart => exact ⟨0, d, rfl, by omega, by omega, rfl, S0, rfl⟩
  case round =>
    clear S0
    obtain ⟨i, dk, rfl, hin, hkx, hds, S1, heq⟩ := hrel
    by_cases hlt : i < n
    · have hltz : (i : Int) < (n : Int) := by omega
      go_wp2_with fail
      have ea44 : ((a : Int) + (i : Int)).toNat = a + i := by omega
      have pa44 : (0 : Int) ≤ (a : Int) + (i : Int) := by omega
      have ba44 : (a : Int) + (i : Int) < (d.size : Int) := by omega
      have ra44 : IntKind.i64.wrap ((a : Int) + (i : Int)) = (a : Int) + (i : Int) := by rw [IntKind.wrap_i64]; omega
      have ec44 : ((b : Int) + (i : Int)).toNat = b + i := by omega
      have pc44 : (0 : Int) ≤ (b : Int) + (i : Int) := by omega
      have bc44 : (b : Int) + (i : Int) < (d.size : Int) := by omega
      have rc44 : IntKind.i64.wrap ((b : Int) + (i : Int)) = (b : Int) + (i : Int) := by rw [IntKind.wrap_i64]; omega
      have S2 : Aside (SWK enc k w0 blk off (swp dk (a + i) (b + i)) ((wr.drew.setCells blk (off + (a + i) * k) (enc dk[b + i]!)).setCells blk (off + (b + i) * k) (enc dk[a + i]!))) := S1.out.swapped R (a + i) (b + i) (by omega) (by omega)
      have l44a := S1.out.ld1 R (by omega) P (a + i) (by omega)
      have l44b := S1.out.ld1 R (by omega) P (b + i) (by omega)
      have s44a := S1.out.st1 R (by omega) P (a + i) (by omega) dk[b + i]!
      have s44b := S1.out.st2 R (by omega) P (a + i) (b + i) (by omega) (by omega) dk[b + i]! dk[a + i]!
      have n44a : (enc dk[a + i]!).length = k := R.hk _
      have n44b : (enc dk[b + i]!).length = k := R.hk _
      generalize enc dk[a + i]! = cI44 at S2 l44a s44b n44a
      generalize enc dk[b + i]! = cJ44 at S2 l44b s44a s44b n44b
      clear S1
      go_wp2_with fail
      go_big_region_o
      clear l44a l44b s44a s44b
      generalize (wr.drew.setCells blk (off + (a + i) * k) cJ44).setCells blk (off + (b + i) * k) cI44 = w2 at S2 ⊢
      go_wp2
      go_roundg (n - (i + 1))
      case measure => omega
      case rel =>
        have e1 := heq.out
        rw [swapR_go _ _ _ _ (by omega)] at e1
        exact ⟨i + 1, swp dk (a + i) (b + i), by go_num, by omega, Nat.le_refl _, by rw [size_swp]; exact hds, S2, e1⟩
    · obtain rfl : i = n := by omega
      go_wp2
      go_end0
      have e1 := heq.out
      rw [Nat.sub_self] at e1
      exact ⟨rfl, by rw [← e1]; exact S1.out, by rw [← e1]; exact hds⟩

set_option maxHeartbeats 4000000 in
set_option maxRecDepth 1000000 in
theorem SortProg.rotate {k : Nat} (L : SortProg P k) (enc : α → List Value) (g : Nat) (cb : Array Value) (blk off cap a m b : Nat) (d0 d : Array α) (w0 w : World)
    (R : RowK enc k w0 blk off d0) (hs : d0.size = d.size) (S : SWK enc k w0 blk off d w) (ha : a < m) (hm : m < b) (hb : b ≤ d.size) (hsz : d.size < 4611686018427387904) :
    Calls P 51 #[.slice (some ⟨blk, off, none⟩) d.size cap, .int .i64 a, .int .i64 m, .int .i64 b, .func (.func g) #[] cb] w fun e w' => e = .returned (.tuple #[]) ∧ SWK enc k w0 blk off (rot m (m - a) (b - m) d) w' ∧ (rot m (m - a) (b - m) d).size = d.size := by
  have mixed := L.mixed; have t0 := L.t0; have a0 := L.a0; have z0 := L.z0; have v0 := L.v0; have t3 := L.t3; have a3 := L.a3; have z3 := L.z3; have v3 := L.v3; have t4 := L.t4; have a4 := L.a4; have z4 := L.z4; have v4 := L.v4; have ts := L.ts; have as22 := L.as22; have zs := L.zs; have vs := L.vs; have tf := L.tf; have af := L.af; have zf := L.zf; have vf := L.vf; have aE := L.aE; have zE := L.zE
  have e52 : ∀ args w, (callFunc 52 args).run P w = .ok (.enter 52 args) w := enters_of L.f6 (by kernel_rfl) rfl
  have S0 : Aside (SWK enc k w0 blk off d w) := S
  clear S
  go_enter L.f5, Try.ntmps51
  go_wp2
  go_loopg [10, 11] (b - a) (fun kx s10 s11 wr => ∃ (i j : Nat) (dk : Array α), s10 = .int .i64 i ∧ s11 = .int .i64 j ∧ 0 < i ∧ 0 < j ∧ a + i ≤ m ∧ m + j ≤ b ∧ i + j ≤ kx ∧
    dk.size = d.size ∧ Aside (SWK enc k w0 blk off dk wr) ∧ Hid (rot m i j dk = rot m (m - a) (b - m) d))
  case atStart => exact ⟨m - a, b - m, d, by go_num, by go_num, by omega, by omega, by omega, by omega, by omega, rfl, S0, rfl⟩
  case round =>
    clear S0
    obtain ⟨i, j, dk, rfl, rfl, hi0, hj0, him, hjb, hkx, hds, S1, heq⟩ := hrel
    by_cases hij : i = j
    · subst hij
      have em : IntKind.i64.wrap ((m : Int) - (i : Int)) = ((m - i : Nat) : Int) := by rw [IntKind.wrap_i64]; omega
      have em2 : ((m : Int) - (i : Int)) = ((m - i : Nat) : Int) := by omega
      have hc := L.swapRange enc g cb blk off cap (m - i) m i d0 dk w0 wr R (by omega) S1.out (by omega) (by omega) (by omega)
      rw [hds] at hc
      go_wp2_with (first | (go_at_fn 52; refine hc.mono ?_; rintro e w2 ⟨rfl, S2, hs2⟩))
      go_end0
      have e1 := heq.out
      rw [rot_end] at e1
      exact ⟨rfl, by rw [← e1]; exact S2, by rw [← e1]; exact hs2⟩
    · have hne0 : ¬ (i : Int) = (j : Int) := by omega
      have hne : ((i : Int) != (j : Int)) = true := by simpa using hne0
      by_cases hlt : j < i
      · have hltz : (j : Int) < (i : Int) := by omega
        have em2 : ((m : Int) - (i : Int)) = ((m - i : Nat) : Int) := by omega
        have hc := L.swapRange enc g cb blk off cap (m - i) m j d0 dk w0 wr R (by omega) S1.out (by omega) (by omega) (by omega)
        rw [hds] at hc
        go_wp2_with (first | (go_at_fn 52; refine hc.mono ?_; rintro e w2 ⟨rfl, S2, hs2⟩))
        go_roundg (i - j + j)
        case measure => omega
        case rel =>
          have e1 := heq.out
          rw [rot_more _ hj0 hlt] at e1
          exact ⟨i - j, j, _, by go_num, rfl, by omega, hj0, by omega, hjb, Nat.le_refl _, by first | exact hs2 | omega, S2, e1⟩
      · have hltz : ¬ (j : Int) < (i : Int) := by omega
        have em2 : ((m : Int) - (i : Int)) = ((m - i : Nat) : Int) := by omega
        have em3 : ((m : Int) + (j : Int) - (i : Int)) = ((m + j - i : Nat) : Int) := by omega
        have hc := L.swapRange enc g cb blk off cap (m - i) (m + j - i) i d0 dk w0 wr R (by omega) S1.out (by omega) (by omega) (by omega)
        rw [hds] at hc
        go_wp2_with (first | (go_at_fn 52; refine hc.mono ?_; rintro e w2 ⟨rfl, S2, hs2⟩))
        go_roundg (i + (j - i))
        case measure => omega
        case rel =>
          have e1 := heq.out
          rw [rot_less _ hi0 (by omega)] at e1
          exact ⟨i, j - i, _, rfl, by go_num, hi0, by omega, him, by omega, Nat.le_refl _, by first | exact hs2 | omega, S2, e1⟩
end Go.Proofs.Ytiomkbpniplfhaa
