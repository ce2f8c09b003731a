/- Rows of dated values: what copy and append write into them; plain lists. -/
import Derived.Test.YtoedhcenmbpeeaaDatRefs
import Derived.Laws.CopyRow
import Derived.Lib.Overlaps
import Derived.Lib.AppendZerosOnto
import Derived.Laws.Externs
namespace Go.Proofs.Ytoedhcenmbpeeaa
open Go.RowKit

/-- Cells written over a row from place p on. -/
def put (cs : List Value) (p : Nat) (new : List Value) : List Value := cs.take p ++ new ++ cs.drop (p + new.length)
theorem block_put {w : World} {g : Nat} {t : TypeId} {cs : List Value} (h : Block w g t cs) (p : Nat) (new : List Value) :
    Block (w.setRow g (put cs p new).toArray) g t (put cs p new) ∧ w.grownBy (w.setRow g (put cs p new).toArray) (some g) := by
  refine ⟨setRow_heap w g cs.toArray _ t (0, 0) h, ⟨rfl, rfl, rfl, by simp, fun k _ hk => setRow_other w g k _ (fun e => hk (by rw [e]))⟩⟩
theorem dc_drop' (l : List (Int × Int)) (k : Nat) : (DC l).drop (k * 2) = DC (l.drop k) := by
  induction l generalizing k with
  | nil => simp [DC]
  | cons y t ih =>
    rcases k with _ | k
    · simp [DC]
    · rw [show (k + 1) * 2 = k * 2 + 2 by omega, List.drop_succ_cons, dc_cons, ← ih k]
      rfl
theorem put_in (l new : List (Int × Int)) (junk : List Value) (i : Nat) (h : i + new.length ≤ l.length) :
    put (DC l ++ junk) (i * 2) (DC new) = DC (l.take i ++ new ++ l.drop (i + new.length)) ++ junk := by
  unfold put
  rw [dc_len, ← Nat.add_mul, List.take_append_of_le_length (by rw [dc_len]; omega), List.drop_append_of_le_length (by rw [dc_len]; omega), dc_take, dc_drop', dc_append, dc_append, ← List.append_assoc]
theorem put_out (l new : List (Int × Int)) (junk : List Value) (i : Nat) (h : l.length ≤ i + new.length) (h2 : i ≤ l.length) :
    put (DC l ++ junk) (i * 2) (DC new) = DC (l.take i ++ new) ++ junk.drop ((i + new.length - l.length) * 2) := by
  unfold put
  rw [dc_len, ← Nat.add_mul, List.take_append_of_le_length (by rw [dc_len]; omega), List.drop_append, List.drop_of_length_le (by rw [dc_len]; omega), dc_take, dc_append, List.nil_append, dc_len, Nat.sub_mul]
theorem run_copy_row2 {P : Program} (w : World) (dT sT ty elem : TypeId) (size g o dLen dCap : Nat) (a : Addr) (sLen sCap m : Nat) (cur : Array Value) (t : TypeId) (cs : List Value)
    (hu : P.underlying dT = some (.slice elem)) (hs : (P.info? elem).map (·.size) = some size)
    (hg : w.heap[g]? = some (.cells cur t (0, 0))) (hm : m = Nat.min sLen dLen) (hn : cs.length = m * size)
    (hsrc : ∀ j v, cs[j]? = some v → w.cell? (a.add j) = some v) (hfit : o + cs.length ≤ cur.size) (h1 : ∀ v ∈ cs, v.oneCell' = true) :
    (Builtin.copy_ #[dT, sT] ty #[.slice (some ⟨g, o, none⟩) dLen dCap, .slice (some a) sLen sCap]).run P w =
      .ok (goInt m) (w.setRow g (put cur.toList o cs).toArray) := by
  have hl := run_loadCells_list (P := P) w a cs hsrc
  have hst := run_storeCells_at P g o t cs 0 cur w hg (by simpa using hfit) h1
  cases hq : P.info? elem with
  | none => simp [hq] at hs
  | some i =>
    have hi : i.size = size := by simpa [hq] using hs
    subst hi
    rw [hn] at hl
    simp [Builtin.copy_, run_underlying hu, Builtin.lenOf, Builtin.firstCells, sizeOf, typeInfo, hq, ← hm, hl, hst, put]
theorem wpList_copy_runI {P : Program} (w : World) {ops : Array Oper} {rest : List Oper} {o : Oper} {a : Act} {Q : Exit → Act → World → Prop} (hgd : o.guard = none) (d s : Operand) (t t' : TypeId)
    (ho : o.op = .call { callee := .builtin .copy, args := #[d, s], argTypes := #[t, t'] }) (v u : Value) (hd : a.eval d = v) (hs : a.eval s = u) {v' : Value} {w' : World}
    (hr : (Builtin.copy_ #[t, t'] o.type #[v, u]).run P w = .ok v' w') (h : wpList P ops Q rest (a.put o.dst v') w') : wpList P ops Q (o :: rest) a w :=
  wpList_plain hgd fun K hK => by
    have hk := hK _ _ h
    unfold Oper.wp execOp
    simp only [ho, resolve, invoke, builtin, Sem.run_bind, Sem.run_pure, Result.andThen_ok, List.map_toArray, List.map_cons, List.map_nil, hd, hs, hr]
    exact hk
theorem step_copy_runI {P : Program} {ops : Array Oper} {o : Oper} {a : Act} {w : World} {K : Act → World → Prop} {Q : Exit → Act → World → Prop} {E : Prop}
    (hg : o.guard = none) (d x : Operand) (dT sT : TypeId) (hop : o.op = Op.call { callee := Callee.builtin Builtin.copy, args := #[d, x], argTypes := #[dT, sT] })
    (v u : Value) (hd : a.eval d = v) (hx : a.eval x = u) {v' : Value} {w' : World} (hr : (Builtin.copy_ #[dT, sT] o.type #[v, u]).run P w = .ok v' w') (hK : K (a.put o.dst v') w') :
    if Region.wanted o (yielded ops a.tmps) = true then Oper.wp P o a w K Q else E := by
  have hw : Region.wanted o (yielded ops a.tmps) = true := by simp [Region.wanted, hg]
  rw [if_pos hw]
  unfold Oper.wp
  simp [execOp, hop, resolve, invoke, builtin, hd, hx, hr, Result.andThen]
  exact hK
theorem step_append_runI {P : Program} {ops : Array Oper} {o : Oper} {a : Act} {w : World} {K : Act → World → Prop} {Q : Exit → Act → World → Prop} {E : Prop}
    (hg : o.guard = none) (d x : Operand) (dT sT : TypeId) (hop : o.op = Op.call { callee := Callee.builtin Builtin.append, args := #[d, x], argTypes := #[dT, sT] })
    (v u : Value) (hd : a.eval d = v) (hx : a.eval x = u) {v' : Value} {w' : World} (hr : (Builtin.append_ #[dT, sT] o.type #[v, u]).run P w = .ok v' w') (hK : K (a.put o.dst v') w') :
    if Region.wanted o (yielded ops a.tmps) = true then Oper.wp P o a w K Q else E := by
  have hw : Region.wanted o (yielded ops a.tmps) = true := by simp [Region.wanted, hg]
  rw [if_pos hw]
  unfold Oper.wp
  simp [execOp, hop, resolve, invoke, builtin, hd, hx, hr, Result.andThen]
  exact hK
/-- 'copy' from a list that is shown into a row. -/
theorem row_copy {w : World} {g : Nat} {cs : List Value} (hb : Block w g 31 cs) {B m : Nat} {ad : Addr} {new : List (Int × Int)} (hs : Shows w B 2 (some ad) m (DC new)) (p dLen dCap sLen sCap : Nat) (hm : m = Nat.min sLen dLen) (hfit : (p + m) * 2 ≤ cs.length) (ty : TypeId) :
    (Builtin.copy_ #[22, 22] ty #[.slice (some ⟨g, p * 2, none⟩) dLen dCap, .slice (some ad) sLen sCap]).run Try.prog w = .ok (goInt m) (w.setRow g (put cs (p * 2) (DC new)).toArray) := by
  obtain ⟨i0, hi, hz0, hz1, hz2⟩ := info_parts infoD
  exact run_copy_row2 w _ _ ty 31 2 g (p * 2) dLen dCap ad sLen sCap m cs.toArray 31 (DC new) Try.underlying22 (by rw [hi]; simp [hz1]) hb hm (by rw [dc_len, hs.num])
    (fun j v hj => by
      have hjl := (List.getElem?_eq_some_iff.1 hj).1
      have h0 : 0 < m := by rw [dc_len, hs.num] at hjl; omega
      obtain ⟨b, off, he, _, hcell⟩ := hs.at_ h0
      injection he with he
      subst he
      have e1 : (⟨b, off, none⟩ : Addr).add j = ⟨b, off + j, none⟩ := by unfold Addr.add; split <;> simp_all
      rw [e1, hcell j hjl, List.getD, hj]; rfl)
    (by rw [dc_len, hs.num]; simp; omega) (dc_one _)
theorem dc_zeros (k : Nat) : DC (List.replicate k (0, 0)) = List.replicate (k * 2) (.int .i64 0) := by
  induction k with
  | zero => rfl
  | succ k ih => rw [List.replicate_succ, dc_cons, ih, show (k + 1) * 2 = (k * 2 + 1) + 1 by omega, List.replicate_succ, List.replicate_succ]; rfl
theorem zeros_dc (k : Nat) : (Builtin.zeroCells (Value.agg #[.int .i64 0, .int .i64 0]).cells k).toList = DC (List.replicate k (0, 0)) := by
  rw [dc_zeros, List.eq_replicate_iff]
  refine ⟨by rw [Array.length_toList, size_zeroCells]; rfl, fun v hv => ?_⟩
  rw [Array.mem_toList_iff] at hv
  unfold Builtin.zeroCells at hv
  rw [Array.mem_map] at hv
  obtain ⟨i, _, rfl⟩ := hv
  have : i % 2 = 0 ∨ i % 2 = 1 := by omega
  show (#[Value.int .i64 0, .int .i64 0] : Array Value)[i % 2]! = _
  rcases this with h | h <;> rw [h] <;> rfl
/-- 'append' of a list that is shown onto a row's head, where there is room. -/
theorem row_append {w : World} {g : Nat} {cs : List Value} (hb : Block w g 31 cs) {B m : Nat} {ad : Addr} {new : List (Int × Int)} (hs : Shows w B 2 (some ad) m (DC new)) (i c sCap : Nat) (hc : i + m ≤ c) (hfit : (i + m) * 2 ≤ cs.length) (ty : TypeId) :
    (Builtin.append_ #[22, 22] ty #[.slice (some ⟨g, 0, none⟩) i c, .slice (some ad) m sCap]).run Try.prog w = .ok (.slice (some ⟨g, 0, none⟩) (i + m) c) (w.setRow g (put cs (i * 2) (DC new)).toArray) := by
  obtain ⟨i0, hi, hz0, hz1, hz2⟩ := info_parts infoD
  have h := run_append_room (P := Try.prog) w 22 ty 31 i0 Try.underlying22 hi g i c cs.toArray hb ad m sCap (DC new) (by rw [dc_len, hs.num, hz1])
    (fun j v hj => by
      have hjl := (List.getElem?_eq_some_iff.1 hj).1
      have h0 : 0 < m := by rw [dc_len, hs.num] at hjl; omega
      obtain ⟨b, off, he, _, hcell⟩ := hs.at_ h0
      injection he with he
      subst he
      have e1 : (⟨b, off, none⟩ : Addr).add j = ⟨b, off + j, none⟩ := by unfold Addr.add; split <;> simp_all
      rw [e1, hcell j hjl, List.getD, hj]; rfl) (dc_one _) hc (by rw [dc_len, hs.num, hz1]; simp; omega)
  rw [h, hz1]
  rfl
/-- 'x[k:]' of what has an address. -/
theorem cut_some (a0 : Addr) (n c k : Nat) (hk : k ≤ n) (hc : n ≤ c) :
    ∃ ad, (∀ w, (Instr.slice 22 (.slice (some a0) n c) (some (.int .i64 (k : Int))) none none).run Try.prog w = .ok (.slice (some ad) (n - k) (c - k)) w) ∧
      (∀ w B l, Shows w B 2 (some a0) n (DC l) → Shows w B 2 (some ad) (n - k) (DC (l.drop k))) ∧ (k < c → ad = a0.add (k * 2)) := by
  have he : (Try.prog).elem 22 = 31 := by kernel_rfl
  refine ⟨if c = k then a0 else a0.add (k * 2), fun w => ?_, fun w B l h => ?_, fun h => if_neg (by omega)⟩
  · rw [run_slice_l w 22 (some a0) n c (by rw [he]; exact Try.underlying22) .i64 k (by omega) (by omega), he, size_dated]
    simp [sliced, Result.andThen]
    split <;> rfl
  · rw [← dc_drop']
    refine ⟨by rw [List.length_drop, h.1, Nat.sub_mul], fun hn => ?_⟩
    obtain ⟨b, off, e, hb, hcell⟩ := h.2 (by omega)
    injection e with e
    subst e
    rw [if_neg (by omega)]
    refine ⟨b, off + k * 2, by simp [Addr.add], hb, fun j hj => ?_⟩
    rw [List.length_drop] at hj
    rw [Nat.add_assoc, hcell _ (by omega)]
    simp [List.getD]
/-- A part of a row, as a slice shows it. -/
theorem row_shows {w : World} {g : Nat} {l : List (Int × Int)} {junk : List Value} (h : RowD w g l junk) : Shows w (g + 1) 2 (some ⟨g, 0, none⟩) l.length (DC l) := by
  refine ⟨dc_len l, fun _ => ⟨g, 0, rfl, by omega, fun j hj => ?_⟩⟩
  rw [Nat.zero_add, Block.cell h, List.getElem?_append_left hj, List.getD, List.getElem?_eq_getElem hj]; rfl
theorem row_from {w : World} {g i : Nat} {l : List (Int × Int)} {junk : List Value} (h : RowD w g l junk) (hi : i ≤ l.length) : Shows w (g + 1) 2 (some ⟨g, i * 2, none⟩) (l.length - i) (DC (l.drop i)) := by
  refine ⟨by rw [dc_len, List.length_drop], fun _ => ⟨g, i * 2, rfl, by omega, fun j hj => ?_⟩⟩
  rw [dc_len, List.length_drop] at hj
  have e : (DC (l.drop i))[j]? = (DC l)[i * 2 + j]? := by rw [← dc_drop', List.getElem?_drop]
  have hj2 : i * 2 + j < (DC l).length := by rw [dc_len]; omega
  rw [Block.cell h, List.getElem?_append_left hj2, List.getD, e, List.getElem?_eq_getElem hj2]; rfl
def ins (l : List (Int × Int)) (i : Nat) (x : Int × Int) : List (Int × Int) := l.take i ++ [x] ++ l.drop i
def del (l : List (Int × Int)) (i : Nat) : List (Int × Int) := l.take i ++ l.drop (i + 1)
end Go.Proofs.Ytoedhcenmbpeeaa
