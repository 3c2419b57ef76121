/- lines.Hex: the code point of digits (ASCII texts). -/
import Derived.Test.YtmdkjljcnegmeaaDoorProg
import Derived.Test.YtmdkjljcnegmeaaDoorBase
import Derived.Laws.RangeString
import Derived.LoopTactic
import Derived.RegionTactic
import Derived.Deep.QuietTactic
import Derived.BigQuiet
import Derived.Outline
import Derived.WalkLawsBesides
import Derived.KernelRfl
import Derived.Handy
namespace Go.Proofs.YtmdkjljcnegmeaaDoor
open Go.RowKit
set_option linter.unusedVariables false

namespace Sp
abbrev Str := List UInt8
def hexDig (b : UInt8) : Option Nat :=
  if 48 ≤ b.toNat ∧ b.toNat ≤ 57 then some (b.toNat - 48) else if 65 ≤ b.toNat ∧ b.toNat ≤ 70 then some (b.toNat - 55) else if 97 ≤ b.toNat ∧ b.toNat ≤ 102 then some (b.toNat - 87) else none
def hexGo : Nat → Str → Option Nat
  | n, [] => some n
  | n, b :: l => match hexDig b with | some d => hexGo (n * 16 + d) l | none => none
def hex (s : Str) : Option Nat :=
  if s.length < 4 ∨ 6 < s.length then none else match hexGo 0 s with | some n => if 1114111 < n then none else some n | none => none
end Sp
namespace Sp
theorem hexGo_snoc : ∀ (l : Str) (n : Nat) (b : UInt8), hexGo n (l ++ [b]) = (hexGo n l).bind fun m => (hexDig b).map fun d => m * 16 + d
  | [], n, b => by simp only [List.nil_append, hexGo, Option.bind_some]; cases hexDig b <;> rfl
  | c :: l, n, b => by
    simp only [List.cons_append, hexGo]
    cases hexDig c with
    | none => rfl
    | some d => exact hexGo_snoc l _ b
theorem hexDig_lt {b : UInt8} {d : Nat} (h : hexDig b = some d) : d < 16 := by
  unfold hexDig at h
  repeat' split at h
  all_goals simp at h
  all_goals omega
theorem hexGo_none (l l' : Str) (n : Nat) (h : hexGo n l = none) : hexGo n (l ++ l') = none := by
  induction l generalizing n with
  | nil => simp [hexGo] at h
  | cons c l ih =>
    simp only [List.cons_append, hexGo] at h ⊢
    cases hd : hexDig c with
    | none => rfl
    | some d => rw [hd] at h; exact ih _ h
theorem take_snoc (s : ByteArray) (k : Nat) (h : k < s.size) : s.data.toList.take (k + 1) = s.data.toList.take k ++ [s[k]] := by
  rw [List.take_succ_eq_append_getElem (by simpa using h)]; rfl
end Sp
/-- What the loop of Hex holds at its head. -/
def HexAt (s : ByteArray) (k m : Nat) : Prop := Sp.hexGo 0 (s.data.toList.take k) = some m ∧ m < 16 ^ k
theorem HexAt.step {s : ByteArray} {k m d : Nat} (h : HexAt s k m) (hk : k < s.size) (hd : Sp.hexDig s[k] = some d) : HexAt s (k + 1) (m * 16 + d) := by
  obtain ⟨h1, h2⟩ := h
  have := Sp.hexDig_lt hd
  exact ⟨by rw [Sp.take_snoc s k hk, Sp.hexGo_snoc, h1, hd]; rfl, by rw [Nat.pow_succ]; omega⟩
theorem HexAt.lt {s : ByteArray} {k m : Nat} (h : HexAt s k m) (hk : k ≤ 6) : m < 16777216 := by
  have h2 := h.2
  have : 16 ^ k ≤ 16 ^ 6 := Nat.pow_le_pow_right (by omega) hk
  omega
theorem HexAt.bad {s : ByteArray} {k m : Nat} (h : HexAt s k m) (hk : k < s.size) (hd : Sp.hexDig s[k] = none) : Sp.hex s.data.toList = none := by
  have e : Sp.hexGo 0 (s.data.toList.take (k + 1)) = none := by rw [Sp.take_snoc s k hk, Sp.hexGo_snoc, h.1, hd]; rfl
  have e2 : Sp.hexGo 0 s.data.toList = none := by
    rw [← List.take_append_drop (k + 1) s.data.toList]
    exact Sp.hexGo_none _ _ _ e
  unfold Sp.hex
  rw [e2]
  split <;> rfl
theorem HexAt.done {s : ByteArray} {m : Nat} (h : HexAt s s.size m) (h4 : 4 ≤ s.size) (h6 : s.size ≤ 6) : Sp.hex s.data.toList = if 1114111 < m then Option.none else some m := by
  have e := h.1
  rw [List.take_of_length_le (by simp)] at e
  unfold Sp.hex
  rw [e, if_neg (by simp; omega)]
theorem or_digit (m : Nat) (d : Int) (hm : m < 16777216) (h0 : 0 ≤ d) (hd : d < 16) : bits .or .i64 ((m : Int) * 16) d = (m : Int) * 16 + d :=
  bits_join .i64 63 (by decide) (fun n h₀ h₁ => by rw [IntKind.wrap_i64]; omega) 4 _ d (by omega) (by omega) (by omega) h0 (by omega) (by omega)
theorem hexDig_a {b : UInt8} (h1 : 48 ≤ (b.toNat : Int)) (h2 : (b.toNat : Int) ≤ 57) : Sp.hexDig b = some (b.toNat - 48) := by
  unfold Sp.hexDig; rw [if_pos (by omega)]
theorem hexDig_b {b : UInt8} (h1 : 65 ≤ (b.toNat : Int)) (h2 : (b.toNat : Int) ≤ 70) : Sp.hexDig b = some (b.toNat - 55) := by
  unfold Sp.hexDig; rw [if_neg (by omega), if_pos (by omega)]
theorem hexDig_c {b : UInt8} (h1 : 97 ≤ (b.toNat : Int)) (h2 : (b.toNat : Int) ≤ 102) : Sp.hexDig b = some (b.toNat - 87) := by
  unfold Sp.hexDig; rw [if_neg (by omega), if_neg (by omega), if_pos (by omega)]
theorem hexDig_d {b : UInt8} (h1 : (b.toNat : Int) < 48 ∨ 57 < (b.toNat : Int)) (h2 : (b.toNat : Int) < 65 ∨ 70 < (b.toNat : Int)) (h3 : (b.toNat : Int) < 97 ∨ 102 < (b.toNat : Int)) : Sp.hexDig b = none := by
  unfold Sp.hexDig; rw [if_neg (by omega), if_neg (by omega), if_neg (by omega)]
theorem hex_rel {s : ByteArray} {w : World} {k m : Nat} {x : Int} (hlt : k < s.size) (hat : HexAt s k m) (h6 : s.size ≤ 6) {d : Nat} (hd : Sp.hexDig s[k] = some d) (hx : x = d) :
    ∃ k_1 m_1 : Nat, k_1 ≤ s.size ∧ w.iter s (k + 1) = w.iter s k_1 ∧ Value.int IntKind.i64 (bits BinOp.or IntKind.i64 ((m : Int) * 16) x) = Value.int IntKind.i64 (m_1 : Int) ∧ HexAt s k_1 m_1 := by
  have hm := hat.lt (by omega)
  have hd' := Sp.hexDig_lt hd
  exact ⟨k + 1, m * 16 + d, by omega, rfl, by subst hx; rw [or_digit m d hm (by omega) (by omega)]; congr 1, hat.step hlt hd⟩

def HexSaid (s : ByteArray) (w : World) (e : Ending) (w' : World) : Prop := e = .returned (.tuple #[.int .i64 ((Sp.hex s.data.toList).getD 0 : Nat), .bool (Sp.hex s.data.toList).isSome]) ∧ Below w.heap.size w w'

set_option maxRecDepth 100000 in
theorem hex_walk (s : ByteArray) (w : World) (ha : ∀ k (h : k < s.size), (s[k]'h).toNat < 128) :
    Calls Tryd.prog 51 #[.string s] w (HexSaid s w) := by
  by_cases h46 : s.size < 4 ∨ 6 < s.size
  · have e : Sp.hex s.data.toList = none := by unfold Sp.hex; rw [if_pos (by simpa using h46)]
    have hfin : HexSaid s w (.returned (.tuple #[.int .i64 0, .bool false])) w := ⟨by rw [e]; rfl, Below.refl _ _⟩
    clear e ha
    rcases h46 with h4 | h6
    · have h4' : decide ((s.size : Int) < 4) = true := by simp; omega
      go_enter Tryd.func51, Tryd.ntmps51
      go_wp2
      go_ret2
      exact hfin
    · have h4' : decide ((s.size : Int) < 4) = false := by simp; omega
      have h6' : decide (6 < (s.size : Int)) = true := by simp; omega
      go_enter Tryd.func51, Tryd.ntmps51
      go_wp2
      go_ret2
      exact hfin
  · have h4 : 4 ≤ s.size := by omega
    have h6 : s.size ≤ 6 := by omega
    have h4' : decide ((s.size : Int) < 4) = false := by simp; omega
    have h6' : decide (6 < (s.size : Int)) = false := by simp; omega
    clear h46
    go_enter Tryd.func51, Tryd.ntmps51
    go_wp2
    go_loopw [4] (fun n wr => ∃ k m : Nat, k ≤ s.size ∧ wr = w.iter s k ∧ n = .int .i64 m ∧ HexAt s k m) (fun _ wr => s.size - wr.iterPos w.heap.size)
    case atStart => exact ⟨0, 0, by omega, rfl, rfl, rfl, by decide⟩
    case round =>
      obtain ⟨k, m, hk, rfl, rfl, hat⟩ := hrel
      by_cases hlt : k < s.size
      · have hnx := fun ty => run_next_ascii (P := Tryd.prog) w s k ty hlt (ha k hlt)
        have hb := ha k hlt
        have hm := hat.lt (by omega)
        have hbad : Sp.hexDig s[k] = none → HexSaid s w (.returned (.tuple #[.int .i64 0, .bool false])) (w.iter s (k + 1)) := fun hd => ⟨by rw [hat.bad hlt hd]; rfl, (Below.refl _ _).alloc (Nat.le_refl _) _⟩
        have HB := Lib.hid hbad
        clear hbad
        go_wp2
        all_goals first
          | (go_ret2; exact HB.out (hexDig_d (by omega) (by omega) (by omega)))
          | (refine ⟨hex_rel hlt hat h6 (hexDig_a (by assumption) (by assumption)) (by omega), ?_⟩; simp; omega)
          | (refine ⟨hex_rel hlt hat h6 (hexDig_b (by assumption) (by assumption)) (by omega), ?_⟩; simp; omega)
          | (refine ⟨hex_rel hlt hat h6 (hexDig_c (by assumption) (by assumption)) (by omega), ?_⟩; simp; omega)
      · have hnx := fun ty => run_next_end (P := Tryd.prog) w s k ty hlt
        obtain rfl : k = s.size := by omega
        have hfin := hat.done h4 h6
        have hm := hat.lt h6
        have HF := Lib.hid hfin
        clear hfin hat hk hlt
        by_cases hbig : 1114111 < m
        · have hfin2 : HexSaid s w (.returned (.tuple #[.int .i64 0, .bool false])) (w.iter s s.size) := ⟨by rw [HF.out, if_pos hbig]; rfl, (Below.refl _ _).alloc (Nat.le_refl _) _⟩
          clear HF
          go_wp2
          go_ret2
          exact hfin2
        · have hfin2 : HexSaid s w (.returned (.tuple #[.int .i64 m, .bool true])) (w.iter s s.size) := ⟨by rw [HF.out, if_neg hbig]; rfl, (Below.refl _ _).alloc (Nat.le_refl _) _⟩
          clear HF
          go_wp2
          go_ret2
          exact hfin2
end Go.Proofs.YtmdkjljcnegmeaaDoor
