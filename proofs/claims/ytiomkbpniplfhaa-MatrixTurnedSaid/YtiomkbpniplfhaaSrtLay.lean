/- What the stable sort's functions ask of a program: their texts and their types, at elements of k cells. -/
import Derived.Test.YtiomkbpniplfhaaProg
import Derived.Shelf.SlSortCmp.KitK
namespace Go.Proofs.Ytiomkbpniplfhaa
open Go.Shelf Go.RowKit Go.Lib Go.Sort

structure SortProg (P : Program) (k : Nat) : Prop where
  mixed : P.follows .mixedOrders = true
  f1 : P.funcs[37]? = some Try.f37
  f2 : P.funcs[47]? = some Try.f47
  f3 : P.funcs[49]? = some Try.f49
  f4 : P.funcs[50]? = some Try.f50
  f5 : P.funcs[51]? = some Try.f51
  f6 : P.funcs[52]? = some Try.f52
  t0 : P.underlying 0 = some (TypeDesc.tuple #[])
  a0 : ∀ w, (isAgg 0).run P w = .ok false w
  z0 : ∀ w, (Go.sizeOf 0).run P w = .ok 1 w
  v0 : ∀ w, (zeroValue 0).run P w = .ok (Value.tuple #[]) w
  t3 : P.underlying 3 = some (TypeDesc.int IntKind.i64)
  a3 : ∀ w, (isAgg 3).run P w = .ok false w
  z3 : ∀ w, (Go.sizeOf 3).run P w = .ok 1 w
  v3 : ∀ w, (zeroValue 3).run P w = .ok (Value.int IntKind.i64 0) w
  t4 : P.underlying 4 = some (TypeDesc.bool)
  a4 : ∀ w, (isAgg 4).run P w = .ok false w
  z4 : ∀ w, (Go.sizeOf 4).run P w = .ok 1 w
  v4 : ∀ w, (zeroValue 4).run P w = .ok (Value.bool false) w
  tu : P.underlying 59 = some (TypeDesc.int IntKind.u64)
  au : ∀ w, (isAgg 59).run P w = .ok false w
  zu : ∀ w, (Go.sizeOf 59).run P w = .ok 1 w
  vu : ∀ w, (zeroValue 59).run P w = .ok (Value.int IntKind.u64 0) w
  ts : P.underlying 22 = some (TypeDesc.slice 28)
  as22 : ∀ w, (isAgg 22).run P w = .ok false w
  zs : ∀ w, (Go.sizeOf 22).run P w = .ok 1 w
  vs : ∀ w, (zeroValue 22).run P w = .ok (Value.slice none 0 0) w
  tf : P.underlying 46 = some (TypeDesc.func #[28, 28] #[3] false)
  af : ∀ w, (isAgg 46).run P w = .ok false w
  zf : ∀ w, (Go.sizeOf 46).run P w = .ok 1 w
  vf : ∀ w, (zeroValue 46).run P w = .ok (Value.nilFunc) w
  aE : ∀ w, (isAgg 28).run P w = .ok true w
  zE : ∀ w, (Go.sizeOf 28).run P w = .ok k w

theorem sortProg : SortProg Try.prog 6 where
  mixed := by kernel_rfl
  f1 := Try.func37
  f2 := Try.func47
  f3 := Try.func49
  f4 := Try.func50
  f5 := Try.func51
  f6 := Try.func52
  t0 := Try.underlying0
  a0 := Try.isAgg0
  z0 := Try.sizeOf0
  v0 := Try.zeroValue0
  t3 := Try.underlying3
  a3 := Try.isAgg3
  z3 := Try.sizeOf3
  v3 := Try.zeroValue3
  t4 := Try.underlying4
  a4 := Try.isAgg4
  z4 := Try.sizeOf4
  v4 := Try.zeroValue4
  tu := Try.underlying59
  au := Try.isAgg59
  zu := Try.sizeOf59
  vu := Try.zeroValue59
  ts := Try.underlying22
  as22 := Try.isAgg22
  zs := Try.sizeOf22
  vs := Try.zeroValue22
  tf := Try.underlying46
  af := Try.isAgg46
  zf := Try.sizeOf46
  vf := Try.zeroValue46
  aE := Try.isAgg28
  zE := Try.sizeOf28

def insRen : Go.Shelf.Ren := ⟨fun | 20 => 49 | n => n, fun | 22 => 22 | 24 => 28 | 25 => 46 | 0 => 0 | 3 => 3 | 4 => 4 | n => n, fun | n => n⟩
theorem SortProg.ins {P : Program} {k : Nat} (L : SortProg P k) : SlLaysF0.n20 P insRen where
  mixed := L.mixed
  f20 := ⟨Try.f49.name, by kernel_rfl, L.f3.trans (congrArg some (by kernel_rfl))⟩
  t0 := L.t0
  a0 := L.a0
  z0 := L.z0
  v0 := L.v0
  t3 := L.t3
  a3 := L.a3
  z3 := L.z3
  v3 := L.v3
  t4 := L.t4
  a4 := L.a4
  z4 := L.z4
  v4 := L.v4
  t22 := L.ts
  a22 := L.as22
  z22 := L.zs
  v22 := L.vs
  t25 := L.tf
  a25 := L.af
  z25 := L.zf
  v25 := L.vf
theorem SortProg.insertion {P : Program} {k : Nat} {α : Type} [Inhabited α] (L : SortProg P k) (enc : α → List Value) (hk : ∀ x, (enc x).length = k) (h1 : ∀ x, ∀ v ∈ enc x, v.oneCell' = true)
    (cf : α → α → Int) (g : Nat) (cb : Array Value) (blk off cap a b : Nat) (d : Array α) (w : World)
    (eg : ∀ args w, (callFunc g args).run P w = .ok (.enter g args) w) (hcmp : CmpLays P g cb enc k cf blk off d.size w) (hH : HoldsK enc k w blk off d) (hblk : blk < w.heap.size) (hab : a ≤ b) (hb : b ≤ d.size) (hsz : d.size < 4611686018427387904) :
    Calls P 49 #[.slice (some ⟨blk, off, none⟩) d.size cap, .int .i64 a, .int .i64 b, .func (.func g) #[] cb] w fun e w' =>
      e = .returned (.tuple #[]) ∧ ∃ n os, w' = sortWorldK enc k w blk off n (Sort.insertionSort (ltOf cf) d a b) os :=
  AnyQ.insertionSortCmpFunc L.ins k L.aE L.zE enc hk h1 cf g cb blk off cap a b d w eg hcmp hH hblk hab hb hsz
end Go.Proofs.Ytiomkbpniplfhaa
