/- props: (*Tables).Cluster; cluster: kindOf, glued. cluster: kindOf, glued. The text of kindOf is printed by a program of mine: the same step for each name. cluster: the closure of Edge that tells the kind at a place. cluster.Edge. -/
import Derived.Test.YtchkckfadennhaaGreatDoorAccM
import Derived.Test.YtchkckfadennhaaGreatDoorDagM
import Derived.Test.YtchkckfadennhaaGreatDoorLod2
namespace Go.Proofs.YtchkckfadennhaaGreatDoor
open Go.RowKit
set_option linter.unusedVariables false
set_option linter.unusedSimpArgs false

def cluOf (Φ : Files) (r : Int) : Sp.Str := if 44032 ≤ r ∧ r ≤ 55203 then (if (r - 44032) % 28 = 0 then [76, 86] else [76, 86, 84]) else txOf Φ.clu r []
section
variable {w : World} {m : Nat} {Φ : Files}
end
end Go.Proofs.YtchkckfadennhaaGreatDoor
namespace Go.Proofs.YtchkckfadennhaaGreatDoor
open Go.RowKit
set_option linter.unusedVariables false
set_option linter.unusedSimpArgs false

def kindNames : List Sp.Str := [[67, 82], [76, 70], [67, 111, 110, 116, 114, 111, 108], [69, 120, 116, 101, 110, 100], [90, 87, 74], [83, 112, 97, 99, 105, 110, 103, 77, 97, 114, 107], [80, 114, 101, 112, 101, 110, 100], [80, 105, 99, 116, 111, 103, 114, 97, 112, 104, 105, 99], [70, 108, 97, 103], [76], [86], [84], [76, 86], [76, 86, 84]]
def kindN (s : Sp.Str) : Nat := (kindNames.idxOf s + 1) % 15
theorem kindN_le (s : Sp.Str) : kindN s ≤ 14 := by unfold kindN; omega
theorem kindN_other {s : Sp.Str} (h : s ∉ kindNames) : kindN s = 0 := by
  unfold kindN
  rw [List.idxOf_eq_length h]
  rfl
def gluedB (a b : Nat) : Bool := [(1, 2), (10, 10), (10, 11), (10, 13), (10, 14), (13, 11), (13, 12), (11, 11), (11, 12), (14, 12), (12, 12)].contains (a, b)
end Go.Proofs.YtchkckfadennhaaGreatDoor
namespace Go.Proofs.YtchkckfadennhaaGreatDoor
open Go.RowKit
set_option linter.unusedVariables false
set_option linter.unusedSimpArgs false

/-- A slice of ints, wherever it lies. -/
def ListAt (w : World) (v : Value) (zs : List Int) : Prop := ∃ A c, v = .slice A zs.length c ∧ zs.length ≤ 9223372036854775807 ∧ (0 < zs.length → ∃ ad, A = some ad ∧ ∀ j u, (intz zs)[j]? = some u → w.cell? (ad.add j) = some u)
theorem ListAt.below {w w' : World} {v : Value} {zs : List Int} (h : ListAt w v zs) (hb : Below w.heap.size w w') : ListAt w' v zs := by
  obtain ⟨A, c, h1, h2, h3⟩ := h
  exact ⟨A, c, h1, h2, fun hp => by
    obtain ⟨ad, h4, h5⟩ := h3 hp
    exact ⟨ad, h4, fun j u hu => cell_later hb (h5 j u hu)⟩⟩
theorem ListAt.of_own {w : World} {B : Nat} {v : Value} {zs : List Int} (h : IntsAt w B v zs) : ListAt w v zs := by
  have hl := own_len h
  unfold maxLen at hl
  obtain ⟨A, c, rfl⟩ := own_slice h
  refine ⟨A, c, rfl, by omega, fun hp => ?_⟩
  obtain ⟨g, k, e, _⟩ := own_form h hp
  injection e with e1
  exact ⟨⟨g, 0, none⟩, e1, fun j u hu => by rw [add_plain, Nat.zero_add]; subst e1; exact own_cell h j u hu⟩
def ofK (Φ : Files) (zs : List Int) (i : Int) : Nat := if i < 0 then 0 else kindN (cluOf Φ (zs.getD i.toNat 0))
theorem ofK_le (Φ : Files) (zs : List Int) (i : Int) : ofK Φ zs i ≤ 14 := by
  unfold ofK
  split
  · omega
  · exact kindN_le _
theorem r_loadPtr (ρ : Operand → Value) (W : World) (o : Oper) (x : Operand) (ho : o.op = .load 23 x) (ad : Addr) (hx : ρ x = .pointer (some ad)) (p : Option Addr) (hc : W.cell? ad = some (.pointer p)) : (execOp ρ o).run Tryz.prog W = .ok (.value (.pointer p)) W := by
  unfold execOp
  rw [ho]
  go_simp
theorem r_loadInts (ρ : Operand → Value) (W : World) (o : Oper) (x : Operand) (ho : o.op = .load 57 x) (ad : Addr) (hx : ρ x = .pointer (some ad)) (A : Option Addr) (n c : Nat) (hc : W.cell? ad = some (.slice A n c)) : (execOp ρ o).run Tryz.prog W = .ok (.value (.slice A n c)) W := by
  unfold execOp
  rw [ho]
  go_simp
theorem r_indexInt (ρ : Operand → Value) (W : World) (o : Oper) (x y : Operand) (ho : o.op = .indexAddr 57 x y) (ad : Addr) (n c : Nat) (i : Nat) (hx : ρ x = .slice (some ad) n c) (hy : ρ y = .int .i64 i) (hk : i < n) (hn : n ≤ 9223372036854775807) : (execOp ρ o).run Tryz.prog W = .ok (.value (.pointer (some (ad.add i)))) W := by
  unfold execOp
  rw [ho]
  go_simp
theorem r_loadInt (ρ : Operand → Value) (W : World) (o : Oper) (x : Operand) (ho : o.op = .load 3 x) (ad : Addr) (hx : ρ x = .pointer (some ad)) (i : Int) (hc : W.cell? ad = some (.int .i64 i)) : (execOp ρ o).run Tryz.prog W = .ok (.value (.int .i64 i)) W := by
  unfold execOp
  rw [ho]
  go_simp
abbrev dsE : List (Option Tmp) := [some 7, some 8, some 9, some 10, some 11, some 12, some 13, some 4]
abbrev needsE : List (Nat × Nat) := [(3, 1), (3, 2), (4, 3), (5, 0), (5, 4), (6, 5), (7, 6)]
end Go.Proofs.YtchkckfadennhaaGreatDoor
namespace Go.Proofs.YtchkckfadennhaaGreatDoor
open Go.RowKit
set_option linter.unusedVariables false
set_option linter.unusedSimpArgs false

/-! ### what it tells -/
def skipsTo (K : Int → Nat) : Nat → Int → Int
  | 0, i => i
  | n + 1, i => if K i = 4 then skipsTo K n (i - 1) else i
def skipsAt (K : Int → Nat) (i : Int) : Int := skipsTo K (i + 1).toNat i
theorem skipsAt_more {K : Int → Nat} {i : Int} (h : K i = 4) (hi : 0 ≤ i) : skipsAt K i = skipsAt K (i - 1) := by
  unfold skipsAt
  obtain ⟨n, rfl⟩ := Int.eq_ofNat_of_zero_le hi
  rw [show ((n : Int) + 1).toNat = n + 1 by omega, show ((n : Int) - 1 + 1).toNat = n by omega, skipsTo, if_pos h]
theorem skipsAt_end {K : Int → Nat} {i : Int} (h : K i ≠ 4) : skipsAt K i = i := by
  unfold skipsAt
  cases (i + 1).toNat with
  | zero => rfl
  | succ n => rw [skipsTo, if_neg h]
def flagsTo (K : Int → Nat) : Nat → Int → Nat
  | 0, _ => 0
  | f + 1, j => if K j = 9 then 1 + flagsTo K f (j - 1) else 0
def flagsAt (K : Int → Nat) (j : Int) : Nat := flagsTo K (j + 1).toNat j
theorem flagsAt_more {K : Int → Nat} {i : Int} (h : K i = 9) (hi : 0 ≤ i) : flagsAt K i = 1 + flagsAt K (i - 1) := by
  unfold flagsAt
  obtain ⟨n, rfl⟩ := Int.eq_ofNat_of_zero_le hi
  rw [show ((n : Int) + 1).toNat = n + 1 by omega, show ((n : Int) - 1 + 1).toNat = n by omega, flagsTo, if_pos h]
theorem flagsAt_end {K : Int → Nat} {i : Int} (h : K i ≠ 9) : flagsAt K i = 0 := by
  unfold flagsAt
  cases (i + 1).toNat with
  | zero => rfl
  | succ n => rw [flagsTo, if_neg h]
def edgeMid (a b : Nat) (x y : Bool) : Bool :=
  if gluedB a b then false else if (1 ≤ a ∧ a ≤ 3) ∨ (1 ≤ b ∧ b ≤ 3) then true else if b = 4 ∨ b = 5 ∨ b = 6 ∨ a = 7 then false else if a = 5 ∧ b = 8 then x else if a = 9 ∧ b = 9 then y else true
def edgeOf (Φ : Files) (zs : List Int) (p : Int) : Bool :=
  if zs.length = 0 ∨ p < 0 ∨ (zs.length : Int) < p then false else if p = 0 ∨ p = zs.length then true
  else edgeMid (ofK Φ zs (p - 1)) (ofK Φ zs p) (ofK Φ zs (skipsAt (ofK Φ zs) (p - 2)) != 8) (flagsAt (ofK Φ zs) (p - 1) % 2 == 0)

/-! ### the walk -/
structure EdgeSt (w : World) (m b3 b4 : Nat) (Φ : Files) (zs : List Int) (v : Value) : Prop where
  tab : TabAt w m Φ
  list : ListAt w v zs
  c3 : w.cell? ⟨b3, 0, none⟩ = some (.pointer (some ⟨m + 3, 0, none⟩))
  c4 : w.cell? ⟨b4, 0, none⟩ = some v
theorem EdgeSt.below {w w' : World} {m b3 b4 : Nat} {Φ : Files} {zs : List Int} {v : Value} (h : EdgeSt w m b3 b4 Φ zs v) (hb : Below w.heap.size w w') : EdgeSt w' m b3 b4 Φ zs v := ⟨h.tab.below hb, h.list.below hb, cell_later hb h.c3, cell_later hb h.c4⟩
end Go.Proofs.YtchkckfadennhaaGreatDoor
