/- Lemmas for it; no condition: TScan TScan2. -/
import Derived.Test.YthmhdaefkhcenaaGreatDoorZ08
import Derived.Test.YthmhdaefkhcenaaGreatDoorZ13
import Derived.Test.YthmhdaefkhcenaaGreatDoorZ14
import Derived.RangeFuncNested
import Derived.RangeFuncBound
import Derived.RangeFuncCalls
import Derived.RangeFuncLeaves
import Derived.Shelf.Abstract
import Derived.Shelf.RegionOpen
import Derived.OwnWalkIn
import Derived.TacticsInMore
import Derived.LoopNIn
import Derived.LoopIn
import Derived.Sort.CutIn
set_option linter.unusedVariables false
set_option linter.unusedSimpArgs false
namespace Go.Proofs.YthmhdaefkhcenaaGreatDoor
open Go.RowKit Go.Lib Go.Shelf
attribute [local go_sem] Oper.semAt_some

theorem upon_round {l n : Nat} {P : Program} {o : Oper} {a : Act} {next : Act → World → Prop} {Q : Exit → Act → World → Prop} {r : Result Next} (h : o.upon P a next Q r) : o.uponIn (Fence.wide.inRound l) n P a next Q r := by
  unfold Oper.upon at h
  unfold Oper.uponIn
  split at h
  · exact h
  · exact h
  · exact h
  · exact ⟨(fun e => by cases e), CallsIn.inRound l (callsIn_wide.2 h)⟩
  · refine ⟨(fun e => by cases e), fun c cs _ => ?_⟩
    obtain ⟨v, w', hr, hs⟩ := h c cs
    exact ⟨v, w', hr, stepsIn_wide.2 hs⟩
  · exact h
  · exact h.elim
theorem any_round {l n : Nat} {P : Program} {md : Region.Mode} {ops : Array Oper} {Q : Exit → Act → World → Prop} (hd : ∀ (i : Nat) (o : Oper), ops[i]? = some o → ∀ c, o.op ≠ .defer c) (hQ : ¬ LetsOut Q) :
    ∀ (f : Nat) (s : Array Bool) (a : Act) (w : World), wpAny P md ops Q f s a w → wpAnyIn (Fence.wide.inRound l) n P md ops Q f s a w
  | 0, _, _, _, h => h
  | f + 1, s, a, w, h => ⟨h.1, fun i hi => by
      have h2 := h.2 i hi
      unfold wpOp at h2
      unfold wpOpIn
      cases ho : ops[i]? with
      | none => rw [ho] at h2; exact any_round hd hQ f _ _ _ h2
      | some o =>
        rw [ho] at h2
        dsimp only at h2 ⊢
        split
        · rename_i hw
          rw [if_pos hw] at h2
          rcases h2 with h2 | h2
          · refine ⟨fun _ _ => trivial, ?_⟩
            rw [show (Fence.wide.inRound l).round = some l from rfl, Oper.semAt_some l _ _ (hd i o ho)]
            exact upon_round (Oper.wp_mono (fun a w hh => any_round hd hQ f _ a w hh) h2)
          · exact absurd h2.2 hQ
        · rename_i hw
          rw [if_neg hw] at h2
          exact ⟨fun _ _ => trivial, any_round hd hQ f _ _ _ h2⟩⟩
theorem region_round {l n : Nat} {P : Program} {ops : Array Oper} {Q : Exit → Act → World → Prop} {id : Nat} {a : Act} {w : World} (hm : P.follows .mixedOrders = true) (hd : ∀ (i : Nat) (o : Oper), ops[i]? = some o → ∀ c, o.op ≠ .defer c) (hQ : ¬ LetsOut Q)
    (h : wpAny P .any ops Q ops.size (Array.replicate ops.size false) a w.drew) : (Code.region id ops true).wpIn (Fence.wide.inRound l) n P Q a w :=
  wpIn_region_any hm (any_round hd hQ _ _ _ _ h)
def noDefer (ops : Array Oper) : Bool := ops.toList.all fun o => match o.op with | .defer _ => false | _ => true
theorem noDefer_spec {ops : Array Oper} (h : noDefer ops = true) (i : Nat) (o : Oper) (hi : ops[i]? = some o) (c : Call) : o.op ≠ .defer c := by
  intro e
  have hm : o ∈ ops.toList := by rw [← Array.getElem?_toList] at hi; exact List.mem_of_getElem? hi
  have := List.all_eq_true.1 h o hm
  simp [e] at this
theorem AnyTo.round {l n : Nat} {P : Program} {ops : Array Oper} {Q : Exit → Act → World → Prop} {S : World → Prop} {t id : Nat} {a : Act} {w : World} (k : Nat) (hn : ops.size = k) (hm : P.follows .mixedOrders = true) (hd : noDefer ops = true) (hQ : ¬ LetsOut Q) (hS : S w.drew)
    (h : S w.drew → AnyTo P .any ops Q S t k (Array.replicate k false) a w.drew) : (Code.region id ops true).wpIn (Fence.wide.inRound l) n P Q a w := by
  subst hn
  exact region_round hm (noDefer_spec hd) hQ (AnyTo.any _ _ _ _ (h hS))
def KeptB (B : Nat) (X : List Nat) (w w' : World) : Prop := w.heap.size ≤ w'.heap.size ∧ ∀ k, k < B → k ∉ X → w'.heap[k]? = w.heap[k]?
theorem KeptB.refl (B : Nat) (X : List Nat) (w : World) : KeptB B X w w := ⟨Nat.le_refl _, fun _ _ _ => rfl⟩
theorem KeptB.trans {B : Nat} {X : List Nat} {a b c : World} (h : KeptB B X a b) (h' : KeptB B X b c) : KeptB B X a c := ⟨Nat.le_trans h.1 h'.1, fun k hk hX => (h'.2 k hk hX).trans (h.2 k hk hX)⟩
theorem KeptB.of_below {B : Nat} {X : List Nat} {a b : World} (h : Below a.heap.size a b) (hB : B ≤ a.heap.size) : KeptB B X a b := ⟨h.size, fun k hk _ => h.block k (by omega)⟩
theorem keptB_b {B : Nat} {X : List Nat} {w : World} (hB : B ≤ w.heap.size) (W : World) (l : Nat) (o o' : Obj) (hl : w.heap.size ≤ l) (_ : W.heap[l]? = some o) (_ : o.isCells = false) (_ : o.isWalk = false) : KeptB B X W (W.putObj l o') := by
  have hg := grownBy_putObj' W l o'
  refine ⟨hg.size, fun k hk _ => ?_⟩
  by_cases hkW : k < W.heap.size
  · exact hg.block k hkW (fun e => by injection e with e; omega)
  · have e : (W.putObj l o').heap.size = W.heap.size := by simp [World.putObj]
    rw [Array.getElem?_eq_none (by omega), Array.getElem?_eq_none (by omega)]
theorem Block.keptB {B : Nat} {X : List Nat} {w w' : World} {g : Nat} {t : TypeId} {cs : List Value} (h : Block w g t cs) (hK : KeptB B X w w') (hB : g < B) (hX : g ∉ X) : Block w' g t cs := (hK.2 g hB hX).trans h
theorem Shows.keptB {B C size n : Nat} {X : List Nat} {w w' : World} {A : Option Addr} {xs : List Value} (h : Shows w C size A n xs) (hK : KeptB B X w w') (hC : C ≤ B) (hX : ∀ x ∈ X, C ≤ x) : Shows w' C size A n xs :=
  h.same fun p hp => World.cell?_of_block (hK.2 p.block (by omega) (fun hm => by have := hX _ hm; omega))
def framesL (L : List (List Int)) : List Int := (L.map frameL).flatten
theorem framesL_cons (r : List Int) (L : List (List Int)) : framesL (r :: L) = frameL r ++ framesL L := by simp [framesL]
theorem framesL_app (L M : List (List Int)) : framesL (L ++ M) = framesL L ++ framesL M := by simp [framesL]
theorem framesL_one (r : List Int) : framesL [r] = frameL r := by simp [framesL]
theorem framesL_byte {L : List (List Int)} (h : ∀ r ∈ L, ∀ x ∈ r, 0 ≤ x ∧ x ≤ 255) : ∀ x ∈ framesL L, 0 ≤ x ∧ x ≤ 255 := by
  intro x hx
  simp only [framesL, List.mem_flatten, List.mem_map] at hx
  obtain ⟨l, ⟨r, hr, rfl⟩, hx⟩ := hx
  exact frameL_byte (h r hr) x hx
structure RecY where
  A : Option Addr
  n : Nat
  c : Nat
  e : Int
  xs : List Int
def RecOk (B : Nat) (w : World) (y : RecY) : Prop := Shows w B 1 y.A y.n (U8 y.xs) ∧ 0 < y.n ∧ y.n ≤ y.c ∧ y.n ≤ 60000
abbrev RecS (B : Nat) (w : World) := { y : RecY // RecOk B w y }
def recN {B : Nat} {w : World} (y : RecS B w) : Array Value := #[.slice y.1.A y.1.n y.1.c, .int .i64 y.1.e]
theorem back_set (w : World) (R : Nat) (t : TypeId) (u v : Value) (h : Block w R t [v]) : (w.setCell ⟨R, 0, none⟩ u).setCell ⟨R, 0, none⟩ v = w := by
  have h1 : Block ((w.setCell ⟨R, 0, none⟩ u).setCell ⟨R, 0, none⟩ v) R t [v] := by simpa using (h.set 0 u).set 0 v
  have he : ((w.setCell ⟨R, 0, none⟩ u).setCell ⟨R, 0, none⟩ v).heap = w.heap := by
    apply Array.ext_getElem?
    intro i
    by_cases hi : i = R
    · subst hi; exact h1.trans h.symm
    · exact (Below.heap_setCell _ _ v i (by simpa using hi)).trans (Below.heap_setCell w ⟨R, 0, none⟩ u i (by simpa using hi))
  cases w
  simp only [World.setCell] at he ⊢
  simp only [he]
end Go.Proofs.YthmhdaefkhcenaaGreatDoor
namespace Go.Proofs.YthmhdaefkhcenaaGreatDoor
set_option maxRecDepth 100000
set_option maxHeartbeats 8000000
open Go.RowKit Go.Lib Go.Shelf
attribute [local go_sem] Oper.semAt_some

theorem cut_mid {P : Program} {T E : TypeId} (size : Nat) (hT : P.underlying T = some (.slice E)) (hS : ∀ w, (sizeOf E).run P w = .ok size w) (A : Option Addr) (n c l k : Nat) (hk : l + k ≤ n) (hc : n ≤ c) :
    ∃ A2, (∀ w, (Instr.slice T (.slice A n c) (some (.int .i64 (l : Int))) (some (.int .i64 ((l : Int) + (k : Int)))) none).run P w = .ok (.slice A2 k (c - l)) w) ∧
      ∀ w B xs, Shows w B size A n xs → Shows w B size A2 k ((xs.drop (l * size)).take (k * size)) := by
  have he : P.elem T = E := by simp [Program.elem, hT]
  obtain ⟨A2, hrun, hsh⟩ := cut_from size hT hS A n c l (by omega) hc
  refine ⟨if c = l then A else A.map (·.add (l * size)), fun w => ?_, fun w B xs h => ?_⟩
  · rw [run_slice_lh w T A n c (by rw [he]; exact hT) .i64 .i64 l ((l : Int) + (k : Int)) (by omega) (by omega) (by omega), he, hS]
    simp [sliced, Result.andThen]
    omega
  · have h1 : Shows w B size (if c = l then A else A.map (·.add (l * size))) (n - l) (xs.drop (l * size)) := by
      refine ⟨by rw [List.length_drop, h.1, Nat.sub_mul], fun hn => ?_⟩
      obtain ⟨b, off, rfl, hb, hcell⟩ := h.2 (by omega)
      rw [if_neg (by omega)]
      refine ⟨b, off + l * size, by simp [Addr.add], hb, fun j hj => ?_⟩
      rw [List.length_drop] at hj
      rw [Nat.add_assoc, hcell _ (by omega)]
      simp [List.getD]
    exact h1.take (by omega)
theorem frames_in (F : Fence) (n : Nat) (h5 : F.fn 161) (hro : F.round = none) (A : Option Addr) (k c R : Nat) (w : World) :
    CallsIn F n Tryz.prog 161 #[.slice A k c, .pointer (some ⟨R, 0, none⟩)] w fun e w' => e = .returned (.func (.func 225) #[] #[.pointer (some ⟨w.heap.size, 0, none⟩), .pointer (some ⟨w.heap.size + 1, 0, none⟩)]) ∧ w' = (w.alloc (.cells #[.slice A k c] 71)).alloc (.cells #[.pointer (some ⟨R, 0, none⟩)] 161) := by
  refine callsIn_of_wp Tryz.func161 rfl h5 ?_ hro
  simp only [Tryz.ntmps161, List.size_toArray, List.length_cons, List.length_nil, Nat.reduceAdd, Nat.reduceSub, Array.replicate_succ, Array.replicate_zero, List.push_toArray, List.append_toArray, List.nil_append, List.cons_append]
  gi_wp2
  go_ret
  exact ⟨rfl, rfl⟩
theorem n32_app (x : Int) (h0 : 0 ≤ x) (h1 : x ≤ 4294967295) (xs rest : List Int) (h : xs = w32 x ++ rest) : n32 xs = x := by rw [h]; exact n32_w32 x h0 h1 rest
theorem one_wayS {A B : Prop} {e : Ending} (h : (e = .returned (.bool true) ∧ A) ∨ (e = .returned (.bool false) ∧ B)) : ∃ t, e = .returned (.bool t) ∧ ((t = true ∧ A) ∨ (t = false ∧ B)) := by
  rcases h with ⟨h, a⟩ | ⟨h, b⟩
  · exact ⟨true, h, .inl ⟨rfl, a⟩⟩
  · exact ⟨false, h, .inr ⟨rfl, b⟩⟩
theorem wrap64_same (n : Int) (h : -9223372036854775808 ≤ n ∧ n ≤ 9223372036854775807) : wrap64 n = n := by unfold wrap64; omega
theorem wrap_next (a n nb z : Nat) (hz : z = a + (n + 12)) (h : a + (n + 12) ≤ nb) (h2 : nb ≤ 1000000) : wrap64 ((a : Int) + (8 + (n : Int) + 4)) = (z : Int) ∧ nb - (wrap64 ((a : Int) + (8 + (n : Int) + 4))).toNat < nb - (a : Int).toNat := by
  have e : (a : Int) + (8 + (n : Int) + 4) = ((a + (n + 12) : Nat) : Int) := by omega
  rw [e, wrap64_same _ (by omega), hz]
  refine ⟨rfl, ?_⟩
  rw [Int.toNat_natCast, Int.toNat_natCast]
  omega
theorem frame_parts (r : List Int) (more : List Int) : (frameL r ++ more = w32 r.length ++ (w32 (nt32 r.length) ++ r ++ w32 (crcSum r) ++ more)) ∧ (frameL r ++ more).drop 4 = w32 (nt32 r.length) ++ (r ++ w32 (crcSum r) ++ more) ∧
    (frameL r ++ more).drop (8 + r.length) = w32 (crcSum r) ++ more ∧ ((frameL r ++ more).drop 8).take r.length = r := by
  have e : ∀ x, (w32 x).length = 4 := fun x => rfl
  refine ⟨by simp [frameL], ?_, ?_, ?_⟩
  · simp [frameL, w32]
  · rw [show frameL r ++ more = (w32 r.length ++ w32 (nt32 r.length) ++ r) ++ (w32 (crcSum r) ++ more) by simp [frameL]]
    rw [List.drop_left' (by simp [e]; omega)]
  · rw [show frameL r ++ more = (w32 r.length ++ w32 (nt32 r.length)) ++ (r ++ (w32 (crcSum r) ++ more)) by simp [frameL]]
    rw [List.drop_left' (by simp [e]), List.take_left' rfl]
theorem nt32_range (x : Int) : 0 ≤ nt32 x ∧ nt32 x ≤ 4294967295 := bits_u32 _ _ _
theorem frames1_in (n : Nat) (hn : 1 ≤ n) (l Bb Bp R B nb cb n₀ : Nat) (Ab : Option Addr) (X : List Nat) (L : List (List Int)) (w0 W : World) (hW0 : Below n₀ w0 W) (hn₀ : n₀ ≤ W.heap.size) (hbl : Bb < n₀) (hpl : Bp < n₀) (hrl : R < n₀)
    (hL : ∀ r ∈ L, (∀ x ∈ r, 0 ≤ x ∧ x ≤ 255) ∧ 0 < r.length ∧ r.length ≤ 60000) (hnb : nb = (framesL L).length) (hnc : nb ≤ cb) (hnm : nb ≤ 1000000) (hS : Shows W B 1 Ab nb (U8 (framesL L))) (hB : B ≤ n₀)
    (hBb : Block W Bb 71 [.slice Ab nb cb]) (hBp : Block W Bp 161 [.pointer (some ⟨R, 0, none⟩)]) (hR : Block W R 3 [.int .i64 0]) (hXb : Bb ∉ X) (hXp : Bp ∉ X) (hXr : R ∉ X) (hXB : ∀ x ∈ X, B ≤ x)
    (J Jx : List (RecS B w0) → World → Prop)
    (hY : ∀ pre x W1, J pre W1 → pre.length < L.length → YieldAt Fence.wide (n - 1) Tryz.prog l (recN x) W1 fun e W' =>
      (e = .returned (.bool true) ∧ J (pre ++ [x]) W' ∧ KeptB n₀ X W1 W') ∨ (e = .returned (.bool false) ∧ Jx (pre ++ [x]) W'))
    (hJ : AbidesFrom W.heap.size J) (h0 : J [] W) :
    CallsIn Fence.wide n Tryz.prog 225 #[.func (.yield l) #[] #[], .pointer (some ⟨Bb, 0, none⟩), .pointer (some ⟨Bp, 0, none⟩)] W fun e W' => (∃ v, e = .returned v) ∧
      ((∃ ys : List (RecS B w0), ys.map (·.1.xs) = L ∧ J ys W') ∨ (∃ pre, True ∧ Jx pre W')) := by
  refine callsIn_of_wp Tryz.func225 rfl trivial ?_ rfl
  simp only [Tryz.ntmps225, List.size_toArray, List.length_cons, List.length_nil, Nat.reduceAdd, Nat.reduceSub, Array.replicate_succ, Array.replicate_zero, List.push_toArray, List.append_toArray, List.nil_append, List.cons_append]
  gi_wp2
  gi_loopw [4] (fun p wr => ∃ (done rest : List (List Int)) (pre : List (RecS B w0)), L = done ++ rest ∧ p = .int .i64 ((framesL done).length : Nat) ∧ pre.map (·.1.xs) = done ∧ J pre wr ∧ KeptB n₀ X W wr) (fun p _ => nb - (intOf p).toNat)
  case atStart => exact ⟨[], L, [], rfl, rfl, rfl, h0, KeptB.refl _ _ _⟩
  case round =>
    obtain ⟨done, rest, pre, hLe, rfl, hpre, hJ1, hK⟩ := hrel
    have b0 := (hBb.keptB hK hbl hXb).cell 0
    have p0 := (hBp.keptB hK hpl hXp).cell 0
    have hR1 := hR.keptB hK hrl hXr
    have S1 := hS.keptB hK hB hXB
    simp only [List.getElem?_cons_zero] at b0 p0
    have hlen : (framesL done).length + (framesL rest).length = nb := by rw [hnb, hLe, framesL_app, List.length_append]
    obtain ⟨A2, hcut, hsh⟩ := cut_from (P := Tryz.prog) (T := 71) (E := 5) 1 Tryz.underlying71 size_u8 Ab nb cb (framesL done).length (by omega) hnc
    have S2 := hsh _ _ _ S1
    rw [show (U8 (framesL L)).drop ((framesL done).length * 1) = U8 (framesL rest) by rw [Nat.mul_one, hLe, framesL_app]; simp [U8]] at S2
    have hm : nb - (framesL done).length = (framesL rest).length := by omega
    obtain ⟨c2, hc2⟩ : ∃ c2, cb - (framesL done).length = c2 := ⟨_, rfl⟩
    rw [hm] at S2 hcut
    rw [hc2] at hcut
    have hmc : (framesL rest).length ≤ c2 := by omega
    have hby := framesL_byte (L := rest) (fun r hr => (hL r (by rw [hLe]; simp [hr])).1)
    have hk2 : done.length < L.length ∨ rest = [] := by
      cases rest with
      | nil => exact .inr rfl
      | cons r rest => refine .inl ?_; rw [hLe]; simp
    have hp2 : pre.length = done.length := by rw [← hpre]; simp
    obtain ⟨at_, hat⟩ : ∃ a, (framesL done).length = a := ⟨_, rfl⟩
    rw [hat] at hcut hlen ⊢
    obtain ⟨rl, rf, r0⟩ := hR1.c1
    have hne : ¬ Bp = R := by intro e; subst e; rw [p0] at r0; cases r0
    rcases rest with _ | ⟨r, rest⟩
    · as_aux_lemma =>
        have e0 : framesL ([] : List (List Int)) = [] := rfl
        rw [e0] at hcut
        simp only [List.length_nil] at hcut
        have hd : pre.map (·.1.xs) = L := by rw [hpre, hLe]; simp
        clear hY hL hnb hLe hlen hm hc2 hby hat hsh S1 S2 hS hBb hBp hR hK hpre hp2 hk2 hmc hnc hnm e0 hJ h0 hB hXB hXb hXp hXr hn
        gi_wp2
        refine bodyPost_ret (results_none rfl _ _ _) rfl ?_
        refine ⟨⟨_, rfl⟩, .inl ⟨pre, hd, ?_⟩⟩
        rw [back_set _ _ _ _ _ hR1]
        exact hJ1
    · as_aux_lemma =>
        obtain ⟨hrb, hr0, hr6⟩ := hL r (by rw [hLe]; simp)
        have hlt := hk2.resolve_right (by simp)
        rw [← hp2] at hlt
        rw [framesL_cons] at S2 hcut hmc hby hlen
        obtain ⟨f1, f2, f3, f4⟩ := frame_parts r (framesL rest)
        obtain ⟨m, hmE⟩ : ∃ m, (frameL r ++ framesL rest).length = m := ⟨_, rfl⟩
        have hm12 : m = r.length + 12 + (framesL rest).length := by rw [← hmE, List.length_append, frameL_len]
        rw [hmE] at S2 hcut hmc hlen
        have hx1 : n32 (frameL r ++ framesL rest) = r.length := n32_app _ (by omega) (by omega) _ _ f1
        have num1 := fun w (h : Shows w B 1 A2 m _) => number_any A2 m c2 B (frameL r ++ framesL rest) w h (by omega) hby
        simp only [hx1] at num1
        obtain ⟨A3, hcut3, hsh3⟩ := cut_from (P := Tryz.prog) (T := 71) (E := 5) 1 Tryz.underlying71 size_u8 A2 m c2 4 (by omega) hmc
        obtain ⟨A4, hcut4, hsh4⟩ := cut_from (P := Tryz.prog) (T := 71) (E := 5) 1 Tryz.underlying71 size_u8 A2 m c2 (8 + r.length) (by omega) hmc
        obtain ⟨A5, hcut5, hsh5⟩ := cut_mid (P := Tryz.prog) (T := 71) (E := 5) 1 Tryz.underlying71 size_u8 A2 m c2 8 r.length (by omega) hmc
        have hs3 : ∀ w, Shows w B 1 A2 m (U8 (frameL r ++ framesL rest)) → Shows w B 1 A3 (m - 4) (U8 ((frameL r ++ framesL rest).drop 4)) := fun w h => by simpa [U8] using hsh3 _ _ _ h
        have hs4 : ∀ w, Shows w B 1 A2 m (U8 (frameL r ++ framesL rest)) → Shows w B 1 A4 (m - (8 + r.length)) (U8 ((frameL r ++ framesL rest).drop (8 + r.length))) := fun w h => by simpa [U8] using hsh4 _ _ _ h
        have hs5 : ∀ w, Shows w B 1 A2 m (U8 (frameL r ++ framesL rest)) → Shows w B 1 A5 r.length (U8 r) := fun w h => by
          have := hsh5 _ _ _ h
          rw [Nat.mul_one, Nat.mul_one, U8, ← List.map_drop, ← List.map_take, f4] at this
          exact this
        have hs5' : Shows w0 B 1 A5 r.length (U8 r) := by
          obtain ⟨hl5, hc5⟩ := hs5 _ S2
          refine ⟨hl5, fun h => ?_⟩
          obtain ⟨b, off, e1, e2, e3⟩ := hc5 h
          exact ⟨b, off, e1, e2, fun j hj => (World.cell?_of_block ((hK.2 b (by omega) (fun hm => by have := hXB _ hm; omega)).trans (hW0.block b (by omega)))).symm.trans (e3 j hj)⟩
        have num2 := fun w (h : Shows w B 1 A2 m (U8 (frameL r ++ framesL rest))) => number_any A3 (m - 4) (c2 - 4) B _ w (hs3 w h) (by omega) (fun x hx => hby x (List.mem_of_mem_drop hx))
        rw [n32_app _ (nt32_range _).1 (nt32_range _).2 _ _ f2] at num2
        have num3 := fun w (h : Shows w B 1 A2 m (U8 (frameL r ++ framesL rest))) => number_any A4 (m - (8 + r.length)) (c2 - (8 + r.length)) B _ w (hs4 w h) (by omega) (fun x hx => hby x (List.mem_of_mem_drop hx))
        rw [n32_app _ (crcSum_range _).1 (crcSum_range _).2 _ _ f3] at num3
        have sum5 := fun w (h : Shows w B 1 A2 m (U8 (frameL r ++ framesL rest))) hBw => sum_any A5 r.length (c2 - 8) B r w (hs5 w h) hBw hrb (by omega)
        have q1 : 8 ≤ (m : Int) := by omega
        have q1' : ¬ (m : Int) < 8 := by omega
        have q2 : (r.length : Int) ≤ 65536 := by omega
        have q4 := Lib.hid (show at_ + (r.length + 12) ≤ nb ∧ nb ≤ 1000000 by omega)
        have q7 := Lib.hid (show (framesL (done ++ [r])).length = at_ + (r.length + 12) by rw [framesL_app, framesL_one, List.length_append, frameL_len, hat])
        have q3 : 8 + (r.length : Int) + 4 ≤ (m : Int) := by omega
        replace hcut3 : ∀ w, (Instr.slice 71 (.slice A2 m c2) (some (.int .i64 4)) none none).run Tryz.prog w = .ok (.slice A3 (m - 4) (c2 - 4)) w := hcut3
        obtain ⟨m3, hm3⟩ : ∃ k, m - 4 = k := ⟨_, rfl⟩
        obtain ⟨c3, hc3⟩ : ∃ k, c2 - 4 = k := ⟨_, rfl⟩
        rw [hm3, hc3] at hcut3 num2
        clear hm3 hc3
        have hcast : (((8 + r.length : Nat)) : Int) = 8 + (r.length : Int) := by omega
        rw [hcast] at hcut4
        replace hcut5 : ∀ w, (Instr.slice 71 (.slice A2 m c2) (some (.int .i64 8)) (some (.int .i64 (8 + (r.length : Int)))) none).run Tryz.prog w = .ok (.slice A5 r.length (c2 - 8)) w := hcut5
        obtain ⟨m4, hm4⟩ : ∃ k, m - (8 + r.length) = k := ⟨_, rfl⟩
        obtain ⟨c4, hc4⟩ : ∃ k, c2 - (8 + r.length) = k := ⟨_, rfl⟩
        obtain ⟨c5, hc5⟩ : ∃ k, c2 - 8 = k := ⟨_, rfl⟩
        rw [hm4, hc4] at hcut4 num3
        rw [hc5] at hcut5 sum5
        have hc5' : r.length ≤ c5 := by omega
        clear hm4 hc4 hc5 hcast
        have hK' := hK
        clear hm12 hsh3 hsh4 hsh5 hsh hs3 hs4 hnb hL hlen hm hc2 hmE hk2 hp2 f1 f2 f3 f4 hx1 hnm
        gi_wp2_with (refine ⟨trivial, ?_⟩; gi_at_call 226; first | (with_reducible refine (callsIn_wide.2 (num1 _ S2)).mono ?_; rintro e w' ⟨rfl, rfl⟩) | (with_reducible refine (callsIn_wide.2 (num2 _ S2)).mono ?_; rintro e w' ⟨rfl, rfl⟩))
        refine wpIn_wide.2 ?_
        refine AnyBut.region (S := fun _ => True) (t := 99) 9 rfl (by kernel_rfl) trivial ?_
        intro hS
        refine AnyBut.tk0 0 hS rfl (h := ?_); refine AnyBut.tk0 1 hS rfl (h := ?_); refine AnyBut.tk0 2 hS rfl (h := ?_); refine AnyBut.tk0 4 hS rfl (h := ?_); refine AnyBut.tk0 5 hS rfl (h := ?_); refine AnyBut.tk0 6 hS rfl (h := ?_)
        refine AnyBut.one (i := 3) rfl (by kernel_rfl) rfl ?_; intro K hK
        go_wp2_with fail
        refine (num3 _ S2.drew).mono ?_
        rintro e w' ⟨rfl, rfl⟩
        refine hK _ _ trivial ?_
        clear hK K hS
        intro hS
        have hBr : B ≤ wr.drew.heap.size := by show B ≤ wr.heap.size; have := hK'.1; omega
        refine AnyBut.one (i := 7) rfl (by kernel_rfl) rfl ?_; intro K hK
        go_wp2_with fail
        refine (sum5 _ S2.drew hBr).mono ?_
        rintro e w1 ⟨rfl, hb1⟩
        refine hK _ _ trivial ?_
        clear hK K hS
        intro hS
        refine AnyBut.one (i := 8) rfl (by kernel_rfl) rfl ?_; intro K hK
        go_wp2_with fail
        refine hK _ _ trivial ?_
        clear hK K hS
        intro hS
        refine AnyBut.done (by kernel_rfl) ?_
        have bel1 : Below wr.heap.size wr w1 := bel_call (by exact sBel) hb1
        have J1 : J pre w1 := hJ _ _ _ none hJ1 ⟨bel1.os, bel1.tape, bel1.output, bel1.size, fun k hk _ => bel1.block k hk⟩ (fun r e => by cases e)
        have q8 := wrap_next at_ r.length nb (framesL (done ++ [r])).length q7.out q4.out.1 q4.out.2
        obtain ⟨z, hz⟩ : ∃ z : Int, wrap64 ((at_ : Int) + (8 + (r.length : Int) + 4)) = z := ⟨_, rfl⟩
        rw [hz] at q8
        replace q8 := Lib.hid q8
        have y1 : RecOk B w0 ⟨A5, r.length, c5, z, r⟩ := ⟨hs5', hr0, hc5', hr6⟩
        obtain ⟨fn, tmps, assign, body, hy, hR⟩ := hY pre ⟨_, y1⟩ w1 J1 hlt
        dsimp only [recN] at hy
        clear hY hJ q1 q1' q2 q3 q4 q7 num1 num2 num3 sum5 hs5' hc5' hmc hrb hr0 hr6
        gi_wp2
        refine hR.mono ?_
        rintro e W3 hq
        obtain ⟨t, rfl, hT⟩ := one_wayS hq
        clear hq hR hy
        obtain ⟨rfl, hJ3, hK3⟩ | ⟨rfl, hJ3⟩ := hT
        · have e3 := KeptB.trans (KeptB.trans hK' (KeptB.of_below bel1 (Nat.le_trans hn₀ hK'.1))) hK3
          gi_wp2
          refine ⟨⟨done ++ [r], rest, pre ++ [⟨_, y1⟩], by simp [hLe], ?_, by simp [hpre], hJ3, e3⟩, ?_⟩
          · rw [q8.out.1]
          · exact q8.out.2
        · gi_wp2
          refine bodyPost_ret (results_none rfl _ _ _) rfl ?_
          exact ⟨⟨_, rfl⟩, .inr ⟨_, trivial, hJ3⟩⟩
theorem frames_stops (n : Nat) (hn : 1 ≤ n) (Bb Bp R B nb cb n₀ : Nat) (Ab : Option Addr) (X : List Nat) (L : List (List Int)) (w : World) (hn₀ : n₀ ≤ w.heap.size) (hbl : Bb < n₀) (hpl : Bp < n₀) (hrl : R < n₀)
    (hL : ∀ r ∈ L, (∀ x ∈ r, 0 ≤ x ∧ x ≤ 255) ∧ 0 < r.length ∧ r.length ≤ 60000) (hnb : nb = (framesL L).length) (hnc : nb ≤ cb) (hnm : nb ≤ 1000000) (hS : Shows w B 1 Ab nb (U8 (framesL L))) (hB : B ≤ n₀)
    (hBb : Block w Bb 71 [.slice Ab nb cb]) (hBp : Block w Bp 161 [.pointer (some ⟨R, 0, none⟩)]) (hR : Block w R 3 [.int .i64 0]) (hXb : Bb ∉ X) (hXp : Bp ∉ X) (hXr : R ∉ X) (hXB : ∀ x ∈ X, B ≤ x) :
    SeqStopsK Fence.wide n Tryz.prog 225 #[.pointer (some ⟨Bb, 0, none⟩), .pointer (some ⟨Bp, 0, none⟩)] (recN (B := B) (w := w)) (KeptB n₀ X) (fun ys => ys.map (·.1.xs) = L) (fun _ => True) L.length w := fun l J Jx W hW hJ _ hY h0 =>
  frames1_in n hn l Bb Bp R B nb cb n₀ Ab X L w W (hW.mono hn₀) (Nat.le_trans hn₀ hW.size) hbl hpl hrl hL hnb hnc hnm (hS.below (hW.mono (Nat.le_trans hB hn₀))) hB (hBb.call hW) (hBp.call hW) (hR.call hW) hXb hXp hXr hXB J Jx hY hJ h0
end Go.Proofs.YthmhdaefkhcenaaGreatDoor
