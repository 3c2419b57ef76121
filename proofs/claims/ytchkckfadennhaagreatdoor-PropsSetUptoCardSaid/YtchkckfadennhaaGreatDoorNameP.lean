/- The names of properties, in plain Lean: what Loose, find and Resolve answer; a name that was answered is answered again. -/
import Derived.Test.YtchkckfadennhaaGreatDoorLin
namespace Go.Proofs.YtchkckfadennhaaGreatDoor
open Go.RowKit
set_option linter.unusedVariables false
set_option linter.unusedSimpArgs false

namespace Sp
def looseB (c : UInt8) : Option UInt8 := if c = 32 ∨ c = 45 ∨ c = 95 then none else if 65 ≤ c ∧ c ≤ 90 then some (c + 32) else some c
def looseGo (s : Str) : Str := s.filterMap looseB
def lessIs (s : Str) : Str := if s.take 2 = [105, 115] ∧ 2 < s.length then s.drop 2 else s
def loose (s : Str) : Str := lessIs (looseGo s)
theorem looseGo_snoc (s : Str) (c : UInt8) : looseGo (s ++ [c]) = looseGo s ++ (looseB c).toList := by
  unfold looseGo
  rw [List.filterMap_append]
  cases h : looseB c <;> simp [h]
theorem looseGo_len (s : Str) : (looseGo s).length ≤ s.length := List.length_filterMap_le _ _
def rowsOf (ls : List Str) : List (List Str) := (ls.map fields).filter fun f => !f.isEmpty
def rows (t : Str) : List (List Str) := rowsOf (Lib.split t [10])
def f0 (f : List Str) : Str := f.headD []
def f1 (f : List Str) : Str := (f.drop 1).headD []
def hits (kind s : Str) (f : List Str) : Bool := f0 f == kind && (f.drop 1).any fun n => loose n == loose s
/-- The short name of one of a kind. -/
def fnd (rs : List (List Str)) (kind s : Str) : Option Str := (rs.find? (hits kind s)).map f1
def pr : Str := [112, 114]
def gc : Str := [103, 99]
def bi : Str := [98, 105]
def sc : Str := [115, 99]
def numb (kind : Str) : Int := if kind = gc then 1 else if kind = sc then 2 else 3
def splitter (c : UInt8) : Bool := c == 61 || c == 58
def resolveAt (rs : List (List Str)) (a b : Str) : Int × Str × Int := match fnd rs pr a with
  | none => (0, [], 50)
  | some kind => match fnd rs kind b with
    | none => (0, [], 51)
    | some v => (numb kind, v, 0)
def resolveIn (rs : List (List Str)) (s : Str) : Int × Str × Int := match fnd rs gc s with
  | some v => (numb gc, v, 0)
  | none => match fnd rs bi s with
    | some v => (numb bi, v, 0)
    | none => match fnd rs sc s with
      | some v => (numb sc, v, 0)
      | none => (0, [], 50)
/-- The kind and the value that an expression names, and the error. -/
def resolve (rs : List (List Str)) (s : Str) : Int × Str × Int := match s.findIdx? splitter with
  | some i => resolveAt rs (s.take i) (s.drop (i + 1))
  | none => resolveIn rs s
/-- What PropsNames puts ahead of a value of a kind. -/
def ahead (k : Int) : Str := if k = 1 then gc ++ [61] else if k = 2 then sc ++ [61] else []
def six : List Str := [[65, 110, 121], [65, 83, 67, 73, 73], [65, 108, 112, 104, 97], [76, 111, 119, 101, 114], [85, 112, 112, 101, 114], [115, 112, 97, 99, 101]]
/-- A row that the law can lean on. -/
def rowOk (rs : List (List Str)) (f : List Str) : Bool :=
  f.length == 3 && !(f1 f).isEmpty && (if f0 f = pr then (f1 f == gc || f1 f == sc) else
    (f0 f == gc || f0 f == sc || f0 f == bi) && resolve rs (ahead (numb (f0 f)) ++ f1 f) == (numb (f0 f), f1 f, 0) && (if f0 f = bi then six.contains (f1 f) else !six.contains (f1 f)))
def namesOk (rs : List (List Str)) : Bool := rs.all (rowOk rs)

theorem fnd_some {rs : List (List Str)} {kind s v : Str} (h : fnd rs kind s = some v) : ∃ f ∈ rs, f0 f = kind ∧ f1 f = v := by
  unfold fnd at h
  obtain ⟨f, hf, rfl⟩ := Option.map_eq_some_iff.1 h
  have h1 := List.find?_some hf
  unfold hits at h1
  rw [Bool.and_eq_true, beq_iff_eq] at h1
  exact ⟨f, List.mem_of_find?_eq_some hf, h1.1, rfl⟩
/-- What was answered is a row's. -/
theorem resolve_row {rs : List (List Str)} (hr : namesOk rs = true) {s : Str} {k : Int} {v : Str} (h : resolve rs s = (k, v, 0)) : ∃ f ∈ rs, f0 f ≠ pr ∧ (f0 f = gc ∨ f0 f = sc ∨ f0 f = bi) ∧ k = numb (f0 f) ∧ v = f1 f := by
  have hrow : ∀ f ∈ rs, rowOk rs f = true := List.all_eq_true.1 hr
  have hgc : gc ≠ pr := by decide
  have hsc : sc ≠ pr := by decide
  have hbi : bi ≠ pr := by decide
  unfold resolve at h
  split at h
  · unfold resolveAt at h
    split at h
    · injection h with _ h; injection h with _ h; cases h
    · rename_i kind hk
      split at h
      · injection h with _ h; injection h with _ h; cases h
      · rename_i v' hv
        injection h with e1 h
        injection h with e2 _
        subst e1 e2
        obtain ⟨g, hg, hg0, hg1⟩ := fnd_some hk
        obtain ⟨f, hf, hf0, hf1⟩ := fnd_some hv
        have h1 := hrow g hg
        unfold rowOk at h1
        rw [if_pos hg0, hg1] at h1
        simp only [Bool.and_eq_true, Bool.or_eq_true, beq_iff_eq] at h1
        rcases h1.2 with e | e
        · exact ⟨f, hf, by rw [hf0, e]; exact hgc, by rw [hf0, e]; exact .inl rfl, by rw [hf0], hf1.symm⟩
        · exact ⟨f, hf, by rw [hf0, e]; exact hsc, by rw [hf0, e]; exact .inr (.inl rfl), by rw [hf0], hf1.symm⟩
  · unfold resolveIn at h
    split at h
    · rename_i v' hv
      injection h with e1 h
      injection h with e2 _
      subst e1 e2
      obtain ⟨f, hf, hf0, hf1⟩ := fnd_some hv
      exact ⟨f, hf, by rw [hf0]; exact hgc, by rw [hf0]; exact .inl rfl, by rw [hf0], hf1.symm⟩
    · split at h
      · rename_i v' hv
        injection h with e1 h
        injection h with e2 _
        subst e1 e2
        obtain ⟨f, hf, hf0, hf1⟩ := fnd_some hv
        exact ⟨f, hf, by rw [hf0]; exact hbi, by rw [hf0]; exact .inr (.inr rfl), by rw [hf0], hf1.symm⟩
      · split at h
        · rename_i v' hv
          injection h with e1 h
          injection h with e2 _
          subst e1 e2
          obtain ⟨f, hf, hf0, hf1⟩ := fnd_some hv
          exact ⟨f, hf, by rw [hf0]; exact hsc, by rw [hf0]; exact .inr (.inl rfl), by rw [hf0], hf1.symm⟩
        · injection h with _ h; injection h with _ h; cases h
theorem resolve_again {rs : List (List Str)} (hr : namesOk rs = true) {s : Str} {k : Int} {v : Str} (h : resolve rs s = (k, v, 0)) : resolve rs (ahead k ++ v) = (k, v, 0) := by
  obtain ⟨f, hf, hp, _, rfl, rfl⟩ := resolve_row hr h
  have h1 := List.all_eq_true.1 hr f hf
  unfold rowOk at h1
  rw [if_neg hp] at h1
  simp only [Bool.and_eq_true, beq_iff_eq] at h1
  exact h1.2.1.2
/-- The kind tells which values there are. -/
theorem resolve_six {rs : List (List Str)} (hr : namesOk rs = true) {s : Str} {k : Int} {v : Str} (h : resolve rs s = (k, v, 0)) : (k = 1 ∧ v ∉ six) ∨ (k = 2 ∧ v ∉ six) ∨ (k = 3 ∧ v ∈ six) := by
  obtain ⟨f, hf, hp, h0, rfl, rfl⟩ := resolve_row hr h
  have h1 := List.all_eq_true.1 hr f hf
  unfold rowOk at h1
  rw [if_neg hp] at h1
  simp only [Bool.and_eq_true] at h1
  have h2 := h1.2.2
  rcases h0 with e | e | e
  · rw [if_neg (by rw [e]; decide)] at h2
    exact .inl ⟨by rw [e]; rfl, by simpa using h2⟩
  · rw [if_neg (by rw [e]; decide)] at h2
    exact .inr (.inl ⟨by rw [e]; rfl, by simpa using h2⟩)
  · rw [if_pos e] at h2
    exact .inr (.inr ⟨by rw [e]; rfl, by simpa using h2⟩)
/-- The error, where there is one, comes with nothing. -/
theorem resolve_err {rs : List (List Str)} {s : Str} (h : (resolve rs s).2.2 ≠ 0) : (resolve rs s).1 = 0 ∧ (resolve rs s).2.1 = [] ∧ ((resolve rs s).2.2 = 50 ∨ (resolve rs s).2.2 = 51) := by
  revert h
  unfold resolve resolveAt resolveIn
  repeat' split
  all_goals simp
end Sp
end Go.Proofs.YtchkckfadennhaaGreatDoor
