/- Classes, as numbers of digits. No code is walked here. -/
import Derived.Test.YthoegenipbohmaaGreatDoorCatP
import Derived.Test.YthoegenipbohmaaGreatDoorAccM
import Derived.Lib.Atoi
namespace Go.Proofs.YthoegenipbohmaaGreatDoor
open Go.RowKit
set_option linter.unusedVariables false
set_option linter.unusedSimpArgs false

def numFrom (acc : Nat) (l : Sp.Str) : Nat := l.foldl (fun n b => n * 10 + (b.toNat - 48)) acc
def numN (l : Sp.Str) : Nat := numFrom 0 l
/-- One to three digits. -/
def numB (l : Sp.Str) : Bool := !l.isEmpty && Nat.ble l.length 3 && l.all fun b => Nat.ble 48 b.toNat && Nat.ble b.toNat 57
theorem num_bytes {l : Sp.Str} (h : numB l = true) : l ≠ [] ∧ l.length ≤ 3 ∧ ∀ b ∈ l, 48 ≤ b.toNat ∧ b.toNat ≤ 57 := by
  unfold numB at h
  rw [Bool.and_eq_true, Bool.and_eq_true, Nat.ble_eq, List.all_eq_true] at h
  refine ⟨fun e => by rw [e] at h; simp at h, h.1.2, fun b hb => ?_⟩
  have := h.2 b hb
  rwa [Bool.and_eq_true, Nat.ble_eq, Nat.ble_eq] at this
theorem dec_num : ∀ (l : Sp.Str) (acc : Nat), (∀ b ∈ l, 48 ≤ b.toNat ∧ b.toNat ≤ 57) → Lib.decFrom acc l = some (numFrom acc l)
  | [], acc, _ => rfl
  | b :: l, acc, h => by
    have hb := h b List.mem_cons_self
    have hd : Lib.digitVal b = some (b.toNat - 48) := by unfold Lib.digitVal; rw [if_pos hb]
    simp only [Lib.decFrom, hd]
    exact dec_num l _ fun x hx => h x (List.mem_cons_of_mem _ hx)
theorem atoi_num {l : Sp.Str} (h : numB l = true) : Lib.atoi l = some ((numN l : Nat) : Int) := by
  obtain ⟨h1, h2, h3⟩ := num_bytes h
  cases l with
  | nil => exact absurd rfl h1
  | cons b r =>
    have hb := h3 b List.mem_cons_self
    have e1 : (b == 45) = false := by rw [beq_eq_false_iff_ne]; intro e; subst e; revert hb; decide
    have e2 : (b == 43) = false := by rw [beq_eq_false_iff_ne]; intro e; subst e; revert hb; decide
    show (if (b == 45) = true then _ else if (b == 43) = true then _ else (Lib.decNat (b :: r)).map fun (m : Nat) => (m : Int)) = _
    rw [e1, e2, if_neg (by decide), if_neg (by decide)]
    unfold Lib.decNat
    rw [if_neg (by simp)]
    rw [show Lib.decFrom 0 (b :: r) = some (numFrom 0 (b :: r)) from dec_num (b :: r) 0 h3]
    rfl
theorem numFrom_lt : ∀ (l : Sp.Str) (acc : Nat), (∀ b ∈ l, 48 ≤ b.toNat ∧ b.toNat ≤ 57) → numFrom acc l < (acc + 1) * 10 ^ l.length := fun l acc h => Lib.decFrom_lt l acc _ (dec_num l acc h)
theorem numN_take {l : Sp.Str} (h : numB l = true) (k : Nat) : numN (l.take k) < 1000 := by
  obtain ⟨h1, h2, h3⟩ := num_bytes h
  have h4 := numFrom_lt (l.take k) 0 fun b hb => h3 b (List.mem_of_mem_take hb)
  have h5 : (l.take k).length ≤ 3 := by rw [List.length_take]; omega
  have h6 : 10 ^ (l.take k).length ≤ 10 ^ 3 := Nat.pow_le_pow_right (by decide) h5
  unfold numN
  omega
theorem numN_lt {l : Sp.Str} (h : numB l = true) : numN l < 1000 := by
  have := numN_take h l.length
  rwa [List.take_length] at this
theorem numN_succ (l : Sp.Str) (k : Nat) (hk : k < l.length) : numN (l.take (k + 1)) = numN (l.take k) * 10 + (l[k].toNat - 48) := by
  unfold numN numFrom
  rw [List.take_succ_eq_append_getElem hk, List.foldl_append]
  rfl
theorem txOf_all {rs : List Rec} {Q : Sp.Str → Prop} (h : ∀ r ∈ rs, Q (fld0 r)) (r : Int) {other : Sp.Str} (ho : Q other) : Q (txOf rs r other) := by
  unfold txOf
  cases hg : trieGet (valsOf rs) (entCur (entsOf rs).reverse) r with
  | none => exact ho
  | some v =>
    unfold trieGet at hg
    split at hg
    · obtain ⟨x, hx, rfl⟩ := valsOf_mem rs v (List.mem_of_getElem? hg)
      exact h x hx
    · cases hg
/-- The class of a code point. -/
def combOf (Φ : Files) (r : Int) : Int := ((numN (txOf Φ.comb r [48]) : Nat) : Int)
def CombOk (Φ : Files) : Prop := ∀ x ∈ Φ.comb, numB (fld0 x) = true
theorem comb_num {Φ : Files} (h : CombOk Φ) (r : Int) : numB (txOf Φ.comb r [48]) = true := txOf_all (Q := fun s => numB s = true) h r (by decide)
theorem comb_range {Φ : Files} (h : CombOk Φ) (r : Int) : 0 ≤ combOf Φ r ∧ combOf Φ r < 1000 := by
  have := numN_lt (comb_num h r)
  unfold combOf
  omega
theorem comb_nums : ((recsOf Tryz.f50).all fun x => numB (fld0 x)) = true := by kernel_rfl
set_option maxRecDepth 100000 in
theorem files_comb : CombOk files := by
  have h : (recsOf Tryz.f50).all (fun x => numB (fld0 x)) = true := comb_nums
  intro r hr
  exact List.all_eq_true.1 h r hr
end Go.Proofs.YthoegenipbohmaaGreatDoor
