/- Plain mathematics of tokens: no program here. -/
namespace Go.Proofs.YtkdgomalhngagaaDoor.Tok
/-- A byte as a capital letter, if it is a letter. -/
def up (c : Int) : Int := if 97 ≤ c ∧ c ≤ 122 then c - 32 else c
def isL (c : Int) : Prop := (65 ≤ c ∧ c ≤ 90) ∨ (97 ≤ c ∧ c ≤ 122)
def isD (c : Int) : Prop := 48 ≤ c ∧ c ≤ 57
def isJ (c : Int) : Prop := c = 45 ∨ c = 47 ∨ c = 39 ∨ c = 46
def snd (c : Int) : Prop := isL c ∨ isD c
instance (c : Int) : Decidable (isL c) := inferInstanceAs (Decidable (_ ∨ _))
instance (c : Int) : Decidable (isD c) := inferInstanceAs (Decidable (_ ∧ _))
instance (c : Int) : Decidable (isJ c) := inferInstanceAs (Decidable (_ ∨ _))
instance (c : Int) : Decidable (snd c) := inferInstanceAs (Decidable (_ ∨ _))
/-- A token: its kind and its text. -/
abbrev Tk := Int × List Int
/-- The kind of a part in capital letters. -/
def kind (t : List Int) : Int := if isL (t.headD 0) then 1 else if ∀ c ∈ t, isD c then 2 else 3
def tok (a : List Int) : Tk := (kind (a.map up), a.map up)
/-- Does the part go on with the byte b, ahead of r? -/
def cont (a : List Int) (b : Int) (r : List Int) : Prop := a ≠ [] ∧ (snd b ∨ (isJ b ∧ snd (a.getLastD 0) ∧ snd (r.headD 0)))
instance (a : List Int) (b : Int) (r : List Int) : Decidable (cont a b r) := inferInstanceAs (Decidable (_ ∧ _))
/-- The tokens behind a part that is begun (none: the empty list), each with its place; i: where the rest begins. -/
def shut (a : List Int) (i : Nat) : List (Nat × Tk) := if a = [] then [] else [(i - a.length, tok a)]
def gop (a : List Int) (i : Nat) : List Int → List (Nat × Tk)
  | [] => shut a i
  | b :: r =>
    if cont a b r then gop (a ++ [b]) (i + 1) r
    else shut a i ++ (if snd b then gop [b] (i + 1) r else if b = 44 then (i, (4, [44])) :: gop [] (i + 1) r else if b = 35 then (i, (5, [35])) :: gop [] (i + 1) r else gop [] (i + 1) r)
/-- The same without the places. -/
def go (a : List Int) : List Int → List Tk
  | [] => if a = [] then [] else [tok a]
  | b :: r =>
    if cont a b r then go (a ++ [b]) r
    else (if a = [] then [] else [tok a]) ++ (if snd b then go [b] r else if b = 44 then (4, [44]) :: go [] r else if b = 35 then (5, [35]) :: go [] r else go [] r)
def toks (l : List Int) : List Tk := go [] l
theorem gop_go (l : List Int) : ∀ (a : List Int) (i : Nat), (gop a i l).map Prod.snd = go a l := by
  induction l with
  | nil => intro a i; unfold gop go shut; split <;> simp
  | cons b r ih =>
    intro a i
    unfold gop go
    split
    · exact ih _ _
    · rw [List.map_append]
      have e1 : (shut a i).map Prod.snd = if a = [] then [] else [tok a] := by unfold shut; split <;> simp
      rw [e1]
      congr 1
      split
      · exact ih _ _
      · split
        · rw [List.map_cons, ih]
        · split
          · rw [List.map_cons, ih]
          · exact ih _ _
/-- What begins apart. -/
theorem not_cont (b : Int) (r : List Int) : ¬ cont [] b r := fun h => h.1 rfl
theorem gop_snd {i : Nat} {b : Int} {r : List Int} (h : snd b) : gop [] i (b :: r) = gop [b] (i + 1) r := by
  rw [gop, if_neg (not_cont b r), if_pos h]; rfl
theorem gop_comma {i : Nat} {r : List Int} : gop [] i (44 :: r) = (i, (4, [44])) :: gop [] (i + 1) r := by
  rw [gop, if_neg (not_cont _ r), if_neg (by decide), if_pos rfl]; rfl
theorem gop_hash {i : Nat} {r : List Int} : gop [] i (35 :: r) = (i, (5, [35])) :: gop [] (i + 1) r := by
  rw [gop, if_neg (not_cont _ r), if_neg (by decide), if_neg (by decide), if_pos rfl]; rfl
theorem gop_skip {i : Nat} {b : Int} {r : List Int} (h : ¬ snd b) (h1 : b ≠ 44) (h2 : b ≠ 35) : gop [] i (b :: r) = gop [] (i + 1) r := by
  rw [gop, if_neg (not_cont b r), if_neg h, if_neg h1, if_neg h2]; rfl
theorem gop_cont {a : List Int} {i : Nat} {b : Int} {r : List Int} (h : cont a b r) : gop a i (b :: r) = gop (a ++ [b]) (i + 1) r := by rw [gop, if_pos h]
theorem gop_shut {a : List Int} {i : Nat} {b : Int} {r : List Int} (ha : a ≠ []) (h : ¬ cont a b r) : gop a i (b :: r) = (i - a.length, tok a) :: gop [] i (b :: r) := by
  rw [gop, if_neg h, gop, if_neg (not_cont b r)]
  simp [shut, ha]
theorem gop_end {a : List Int} {i : Nat} (ha : a ≠ []) : gop a i [] = [(i - a.length, tok a)] := by rw [gop, shut, if_neg ha]
theorem gop_nil {i : Nat} : gop [] i [] = [] := rfl
end Go.Proofs.YtkdgomalhngagaaDoor.Tok
