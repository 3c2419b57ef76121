/- What a word's edges are, as plain functions, and the laws about a line end, letters, a mark. No code is walked here. -/
import Derived.Test.YtkgomgfhfoomhaaGreatDoorTxP
import Derived.Test.YtkgomgfhfoomhaaGreatDoorLod2
namespace Go.Proofs.YtkgomgfhfoomhaaGreatDoor
open Go.RowKit
set_option linter.unusedVariables false
set_option linter.unusedSimpArgs false

def passedB (s : Sp.Str) : Bool := s == [69, 120, 116, 101, 110, 100] || s == [70, 111, 114, 109, 97, 116] || s == [90, 87, 74]
def lineB (s : Sp.Str) : Bool := s == [78, 101, 119, 108, 105, 110, 101] || s == [67, 82] || s == [76, 70]
def letterB (s : Sp.Str) : Bool := s == [76, 101, 116, 116, 101, 114] || s == [72, 101, 98, 114, 101, 119]
def quoteB (s : Sp.Str) : Bool := s == [77, 105, 100, 78, 117, 109, 76, 101, 116] || s == [83, 105, 110, 103, 108, 101, 81, 117, 111, 116, 101]
def solidB (s : Sp.Str) : Bool := letterB s || s == [78, 117, 109, 101, 114, 105, 99] || s == [75, 97, 116, 97, 107, 97, 110, 97]
def wordB (s : Sp.Str) : Bool := letterB s || s == [78, 117, 109, 101, 114, 105, 99]
def middleB (side mid : Sp.Str → Bool) (far a b next : Sp.Str) : Bool := side a && mid b && side next || side far && mid a && side b
def joinedB (far a b next : Sp.Str) : Bool :=
  wordB a && wordB b || middleB letterB (fun s => s == [77, 105, 100, 76, 101, 116, 116, 101, 114] || quoteB s) far a b next || a == [72, 101, 98, 114, 101, 119] && b == [83, 105, 110, 103, 108, 101, 81, 117, 111, 116, 101] || middleB (fun s => s == [72, 101, 98, 114, 101, 119]) (fun s => s == [68, 111, 117, 98, 108, 101, 81, 117, 111, 116, 101]) far a b next ||
  middleB (fun s => s == [78, 117, 109, 101, 114, 105, 99]) (fun s => s == [77, 105, 100, 78, 117, 109] || quoteB s) far a b next || a == [75, 97, 116, 97, 107, 97, 110, 97] && b == [75, 97, 116, 97, 107, 97, 110, 97] || b == [74, 111, 105, 110, 101, 114] && (solidB a || a == [74, 111, 105, 110, 101, 114]) || a == [74, 111, 105, 110, 101, 114] && solidB b
def backTo (T : Int → Sp.Str) : Nat → Int → Int
  | 0, i => i
  | f + 1, i => if passedB (T i) then backTo T f (i - 1) else i
def backAt (T : Int → Sp.Str) (i : Int) : Int := backTo T (i + 1).toNat i
def fwdTo (T : Int → Sp.Str) : Nat → Int → Int
  | 0, i => i
  | f + 1, i => if passedB (T i) then fwdTo T f (i + 1) else i
def fwdAt (T : Int → Sp.Str) (n : Nat) (i : Int) : Int := fwdTo T ((n : Int) - i).toNat i
def stopAt (T : Int → Sp.Str) (n : Nat) (i : Int) : Int := if i < 0 then -1 else if (n : Int) ≤ i then -1 else if lineB (T i) then -1 else i
def stepB (T : Int → Sp.Str) (n : Nat) (i : Int) : Int := stopAt T n (backAt T (i - 1))
def stepF (T : Int → Sp.Str) (n : Nat) (i : Int) : Int := stopAt T n (fwdAt T n (i + 1))
def flagsTo2 (T : Int → Sp.Str) (n : Nat) : Nat → Int → Nat
  | 0, _ => 0
  | f + 1, i => if 0 ≤ i then if T i == [70, 108, 97, 103] then 1 + flagsTo2 T n f (stepB T n i) else 0 else 0
def flagsW (T : Int → Sp.Str) (n : Nat) (i : Int) : Nat := flagsTo2 T n (i + 1).toNat i
def farOf (T : Int → Sp.Str) (n : Nat) (i : Int) : Int := if 0 ≤ i then stepB T n i else -1
def midW (T : Int → Sp.Str) (n : Nat) (p : Int) (a b : Sp.Str) : Bool :=
  if a == [67, 82] && b == [76, 70] then false else if lineB a || lineB b then true
  else if a == [90, 87, 74] && b == [80, 105, 99, 116, 111, 103, 114, 97, 112, 104, 105, 99] || a == [83, 112, 97, 99, 101] && b == [83, 112, 97, 99, 101] || passedB b then false
  else if joinedB (T (farOf T n (stepB T n p))) (T (stepB T n p)) b (T (stepF T n p)) then false
  else if b == [70, 108, 97, 103] then flagsW T n (stepB T n p) % 2 == 0 else true
def edgeW (T : Int → Sp.Str) (n : Nat) (p : Int) : Bool :=
  if n = 0 ∨ p < 0 ∨ (n : Int) < p then false else if p = 0 ∨ p = n then true else midW T n p (T (p - 1)) (T p)
/-! ### its steps -/
theorem backAt_more {T : Int → Sp.Str} {i : Int} (h : passedB (T i) = true) (hi : 0 ≤ i) : backAt T i = backAt T (i - 1) := by
  unfold backAt
  obtain ⟨n, rfl⟩ := Int.eq_ofNat_of_zero_le hi
  rw [show ((n : Int) + 1).toNat = n + 1 by omega, show ((n : Int) - 1 + 1).toNat = n by omega, backTo, if_pos h]
theorem backAt_end {T : Int → Sp.Str} {i : Int} (h : passedB (T i) = false) : backAt T i = i := by
  unfold backAt
  cases (i + 1).toNat with
  | zero => rfl
  | succ n => rw [backTo, if_neg (by rw [h]; decide)]
theorem fwdAt_more {T : Int → Sp.Str} {n : Nat} {i : Int} (h : passedB (T i) = true) (hi : i < n) : fwdAt T n i = fwdAt T n (i + 1) := by
  unfold fwdAt
  obtain ⟨k, hk⟩ : ∃ k, ((n : Int) - i).toNat = k + 1 := ⟨((n : Int) - i).toNat - 1, by omega⟩
  rw [hk, show ((n : Int) - (i + 1)).toNat = k by omega, fwdTo, if_pos h]
theorem fwdAt_end {T : Int → Sp.Str} {n : Nat} {i : Int} (h : passedB (T i) = false) : fwdAt T n i = i := by
  unfold fwdAt
  cases ((n : Int) - i).toNat with
  | zero => rfl
  | succ n => rw [fwdTo, if_neg (by rw [h]; decide)]
theorem backTo_le (T : Int → Sp.Str) : ∀ (f : Nat) (i : Int), backTo T f i ≤ i
  | 0, i => Int.le_refl _
  | f + 1, i => by
    unfold backTo
    split
    · have := backTo_le T f (i - 1)
      omega
    · omega
theorem backAt_le (T : Int → Sp.Str) (i : Int) : backAt T i ≤ i := backTo_le T _ i
theorem backTo_ge (T : Int → Sp.Str) : ∀ (f : Nat) (i : Int), i - f ≤ backTo T f i
  | 0, i => by unfold backTo; omega
  | f + 1, i => by
    unfold backTo
    split
    · have := backTo_ge T f (i - 1)
      omega
    · omega
theorem backAt_ge (T : Int → Sp.Str) (i : Int) (h : -1 ≤ i) : -1 ≤ backAt T i := by
  have := backTo_ge T (i + 1).toNat i
  unfold backAt
  omega
theorem stopAt_ge (T : Int → Sp.Str) (n : Nat) (i : Int) : -1 ≤ stopAt T n i := by
  unfold stopAt
  split
  · omega
  split
  · omega
  split
  · omega
  · omega
theorem stopAt_le (T : Int → Sp.Str) (n : Nat) (i : Int) (h : -1 ≤ i) : stopAt T n i ≤ i := by
  unfold stopAt
  split
  · omega
  split
  · omega
  split
  · omega
  · omega
theorem stepB_lt (T : Int → Sp.Str) (n : Nat) (i : Int) (h : 0 ≤ i) : stepB T n i < i := by
  unfold stepB
  have h1 := backAt_ge T (i - 1) (by omega)
  have h2 := backAt_le T (i - 1)
  have h3 := stopAt_le T n _ h1
  omega
theorem stepB_ge (T : Int → Sp.Str) (n : Nat) (i : Int) : -1 ≤ stepB T n i := stopAt_ge T n _
theorem stepF_ge (T : Int → Sp.Str) (n : Nat) (i : Int) : -1 ≤ stepF T n i := stopAt_ge T n _
theorem stopAt_lt (T : Int → Sp.Str) (n : Nat) (i : Int) : stopAt T n i < n := by
  unfold stopAt
  split
  · omega
  split
  · omega
  split
  · omega
  · omega
theorem flagsTo2_any (T : Int → Sp.Str) (n : Nat) : ∀ (f g : Nat) (i : Int), i < f → i < g → flagsTo2 T n f i = flagsTo2 T n g i
  | 0, 0, _, _, _ => rfl
  | 0, g + 1, i, h, _ => by
    rw [flagsTo2, flagsTo2, if_neg (by omega)]
  | f + 1, 0, i, _, h => by
    rw [flagsTo2, flagsTo2, if_neg (by omega)]
  | f + 1, g + 1, i, h1, h2 => by
    rw [flagsTo2, flagsTo2]
    by_cases h0 : 0 ≤ i
    · rw [if_pos h0, if_pos h0]
      have := stepB_lt T n i h0
      rw [flagsTo2_any T n f g (stepB T n i) (by omega) (by omega)]
    · rw [if_neg h0, if_neg h0]
theorem flagsW_more {T : Int → Sp.Str} {n : Nat} {i : Int} (h0 : 0 ≤ i) (h : (T i == [70, 108, 97, 103]) = true) : flagsW T n i = 1 + flagsW T n (stepB T n i) := by
  unfold flagsW
  obtain ⟨k, rfl⟩ := Int.eq_ofNat_of_zero_le h0
  have := stepB_lt T n k h0
  have := stepB_ge T n k
  rw [show ((k : Int) + 1).toNat = k + 1 by omega, flagsTo2, if_pos h0, if_pos h, flagsTo2_any T n k (stepB T n k + 1).toNat _ (by omega) (by omega)]
theorem flagsW_end {T : Int → Sp.Str} {n : Nat} {i : Int} (h : 0 ≤ i → (T i == [70, 108, 97, 103]) = false) : flagsW T n i = 0 := by
  unfold flagsW
  cases (i + 1).toNat with
  | zero => rfl
  | succ k =>
    rw [flagsTo2]
    split
    · next h0 => rw [if_neg (by rw [h h0]; decide)]
    · rfl
theorem edgeW_zero {T : Int → Sp.Str} {n : Nat} {p : Int} (hn : 0 < n) (hp : p = 0) : edgeW T n p = true := by
  unfold edgeW
  rw [if_neg (by omega), if_pos (.inl hp)]
theorem edgeW_mid {T : Int → Sp.Str} {n : Nat} {p : Int} (h1 : 0 < p) (h2 : p < n) : edgeW T n p = midW T n p (T (p - 1)) (T p) := by
  unfold edgeW
  rw [if_neg (by omega), if_neg (by omega)]
/-! ### a mark -/
structure Marked (T T' : Int → Sp.Str) (n q : Nat) : Prop where
  pos : 0 < q
  le : q ≤ n
  lo : ∀ i : Int, i < q → T' i = T i
  hi : ∀ i : Int, q ≤ i → T' (i + 1) = T i
  at' : T' q = [69, 120, 116, 101, 110, 100]
  ahead : T ((q : Int) - 1) = [76, 101, 116, 116, 101, 114]
  out : ∀ i : Int, i < 0 ∨ (n : Int) ≤ i → T i = []
def phi (q : Nat) (i : Int) : Int := if i < q then i else i + 1
section
variable {T T' : Int → Sp.Str} {n q : Nat} (h : Marked T T' n q)
include h
theorem Marked.eq (i : Int) : T' (phi q i) = T i := by
  unfold phi
  split
  · next h1 => exact h.lo i h1
  · next h1 => exact h.hi i (by omega)
theorem Marked.pass : passedB (T' q) = true := by rw [h.at']; rfl
theorem Marked.prev (i : Int) : backAt T' (phi q i - 1) = backAt T' (phi q (i - 1)) := by
  unfold phi
  by_cases h1 : i < q
  · rw [if_pos h1, if_pos (by omega)]
  · by_cases h2 : i = q
    · subst h2
      rw [if_neg (by omega), if_pos (by omega), show (q : Int) + 1 - 1 = q by omega]
      exact backAt_more h.pass (by omega)
    · rw [if_neg h1, if_neg (by omega)]
      congr 1
      omega
theorem Marked.back : ∀ (k : Nat) (i : Int), i = (k : Int) - 1 → backAt T' (phi q i) = phi q (backAt T i)
  | 0, i, e => by
    have e1 : T i = [] := h.out i (.inl (by omega))
    have e2 : passedB (T i) = false := by rw [e1]; rfl
    rw [backAt_end e2, backAt_end (by rw [h.eq]; exact e2)]
  | k + 1, i, e => by
    cases hp : passedB (T i) with
    | true =>
      rw [backAt_more hp (by omega), ← Marked.back k (i - 1) (by omega), ← h.prev, backAt_more (by rw [h.eq]; exact hp) (by unfold phi; split <;> omega)]
    | false => rw [backAt_end hp, backAt_end (by rw [h.eq]; exact hp)]
theorem Marked.next (i : Int) (hi : i < n) : fwdAt T' (n + 1) (phi q i + 1) = fwdAt T' (n + 1) (phi q (i + 1)) := by
  have hle := h.le
  unfold phi
  by_cases h1 : i + 1 < q
  · rw [if_pos (by omega), if_pos h1]
  · by_cases h2 : i + 1 = q
    · rw [if_pos (by omega), if_neg (by omega), h2, fwdAt_more h.pass (by omega)]
    · rw [if_neg (by omega), if_neg (by omega)]
theorem Marked.fwd : ∀ (k : Nat) (i : Int), i = (n : Int) - k → fwdAt T' (n + 1) (phi q i) = phi q (fwdAt T n i)
  | 0, i, e => by
    have e1 : T i = [] := h.out i (.inr (by omega))
    have e2 : passedB (T i) = false := by rw [e1]; rfl
    rw [fwdAt_end e2, fwdAt_end (by rw [h.eq]; exact e2)]
  | k + 1, i, e => by
    have hle := h.le
    cases hp : passedB (T i) with
    | true =>
      rw [fwdAt_more hp (by omega), ← Marked.fwd k (i + 1) (by omega), ← h.next i (by omega), fwdAt_more (by rw [h.eq]; exact hp) (by unfold phi; split <;> omega)]
    | false => rw [fwdAt_end hp, fwdAt_end (by rw [h.eq]; exact hp)]
theorem Marked.stop (i : Int) : stopAt T' (n + 1) (phi q i) = phi q (stopAt T n i) := by
  have hle := h.le
  have hpos := h.pos
  unfold stopAt
  rw [h.eq]
  by_cases h1 : i < 0
  · rw [if_pos h1, if_pos (by unfold phi; split <;> omega)]
    unfold phi
    rw [if_pos (by omega)]
  · rw [if_neg h1, if_neg (by unfold phi; split <;> omega)]
    by_cases h2 : (n : Int) ≤ i
    · rw [if_pos h2, if_pos (by unfold phi; split <;> omega)]
      unfold phi
      rw [if_pos (by omega)]
    · rw [if_neg h2, if_neg (by unfold phi; split <;> omega)]
      split
      · unfold phi
        rw [if_pos (by omega)]
      · rfl
theorem Marked.sB (i : Int) (hi : 0 ≤ i) : stepB T' (n + 1) (phi q i) = phi q (stepB T n i) := by
  unfold Go.Proofs.YtkgomgfhfoomhaaGreatDoor.stepB
  rw [h.prev, h.back i.toNat (i - 1) (by omega), h.stop]
theorem Marked.sF (i : Int) (h1 : i < n) : stepF T' (n + 1) (phi q i) = phi q (stepF T n i) := by
  unfold Go.Proofs.YtkgomgfhfoomhaaGreatDoor.stepF
  rw [h.next i h1, h.fwd ((n : Int) - (i + 1)).toNat (i + 1) (by omega), h.stop]
theorem Marked.flags : ∀ (k : Nat) (i : Int), i < k → flagsW T' (n + 1) (phi q i) = flagsW T n i
  | 0, i, hi => by
    rw [flagsW_end (fun h0 => absurd h0 (by unfold phi; rw [if_pos (by omega)]; omega)), flagsW_end (fun h0 => absurd h0 (by omega))]
  | k + 1, i, hi => by
    by_cases h0 : 0 ≤ i
    · have h0' : 0 ≤ phi q i := by unfold phi; split <;> omega
      cases hf : (T i == [70, 108, 97, 103]) with
      | true =>
        have := stepB_lt T n i h0
        rw [flagsW_more h0 hf, flagsW_more h0' (by rw [h.eq]; exact hf), h.sB i h0, Marked.flags k _ (by omega)]
      | false => rw [flagsW_end fun _ => hf, flagsW_end fun _ => by rw [h.eq]; exact hf]
    · rw [flagsW_end (fun h0' => absurd h0' (by unfold phi; rw [if_pos (by omega)]; omega)), flagsW_end (fun h0' => absurd h0' h0)]
theorem Marked.far (i : Int) (hi : -1 ≤ i) : farOf T' (n + 1) (phi q i) = phi q (farOf T n i) := by
  unfold farOf
  have hpos := h.pos
  by_cases h0 : 0 ≤ i
  · rw [if_pos h0, if_pos (by unfold phi; split <;> omega), h.sB i h0]
  · rw [if_neg h0, if_neg (by unfold phi; rw [if_pos (by omega)]; exact h0)]
    unfold phi
    rw [if_pos (by omega)]
theorem Marked.rest (i : Int) (h1 : 0 ≤ i) (h2 : i < n) : midW T' (n + 1) (phi q i) = midW T n i := by
  funext a b
  unfold midW
  have e1 := h.sB i h1
  have e2 := h.sF i h2
  have e3 := h.far _ (stepB_ge T n i)
  have e4 := h.flags ((stepB T n i) + 1).toNat (stepB T n i) (by have := stepB_ge T n i; omega)
  rw [e1, e2, e3, e4, h.eq, h.eq, h.eq]
theorem Marked.edge (i : Nat) (hi : i < n) : edgeW T' (n + 1) (phi q i) = edgeW T n i := by
  have hle := h.le
  have hpos := h.pos
  have hp1 : 0 ≤ phi q i ∧ phi q i ≤ n := by unfold phi; split <;> omega
  by_cases h0 : i = 0
  · subst h0
    have : phi q (0 : Nat) = 0 := by
      unfold phi
      rw [if_pos (by omega)]
      rfl
    rw [edgeW_zero (by omega) (by omega), edgeW_zero (p := ((0 : Nat) : Int)) (by omega) rfl]
  · have hp2 : 0 < phi q i ∧ phi q i < n + 1 := by unfold phi; split <;> omega
    rw [edgeW_mid (by omega) (by omega), edgeW_mid (by omega) (by omega), h.rest i (by omega) (by omega), h.eq]
    by_cases hq : i = q
    · subst hq
      have e1 : T' (phi i i - 1) = [69, 120, 116, 101, 110, 100] := by
        unfold phi
        rw [if_neg (by omega), show (i : Int) + 1 - 1 = i by omega]
        exact h.at'
      rw [e1, h.ahead]
      rfl
    · congr 1
      have : phi q i - 1 = phi q ((i : Int) - 1) := by
        unfold phi
        by_cases h1 : i < q
        · rw [if_pos (by omega), if_pos (by omega)]
        · rw [if_neg (by omega), if_neg (by omega)]
          omega
      rw [this, h.eq]
theorem Marked.own : edgeW T' (n + 1) q = false := by
  have hle := h.le
  have hpos := h.pos
  unfold edgeW
  rw [if_neg (by omega), if_neg (by omega), h.at', h.lo _ (by omega), h.ahead]
  rfl
end
/-! ### letters -/
theorem letters_edge {T : Int → Sp.Str} {n : Nat} (h : ∀ i : Int, 0 ≤ i → i < n → T i = [76, 101, 116, 116, 101, 114]) (p : Nat) (hp : p < n) : edgeW T n p = (p == 0) := by
  unfold edgeW
  rw [if_neg (by omega)]
  by_cases h0 : p = 0
  · subst h0
    rw [if_pos (.inl rfl)]
    rfl
  · rw [if_neg (by omega), h _ (by omega) (by omega), h p (by omega) (by omega)]
    have e1 : backAt T ((p : Int) - 1) = (p : Int) - 1 := backAt_end (by rw [h _ (by omega) (by omega)]; rfl)
    have e2 : stepB T n p = (p : Int) - 1 := by
      unfold stepB
      rw [e1]
      unfold stopAt
      rw [if_neg (by omega), if_neg (by omega), h _ (by omega) (by omega), if_neg (by decide)]
    have e3 : (p == 0) = false := beq_eq_false_iff_ne.2 h0
    rw [e3]
    unfold midW
    rw [e2, h ((p : Int) - 1) (by omega) (by omega)]
    generalize T (farOf T n (↑p - 1)) = f
    generalize T (stepF T n ↑p) = g
    have : joinedB f [76, 101, 116, 116, 101, 114] [76, 101, 116, 116, 101, 114] g = true := rfl
    rw [this]
    rfl
/-! ### a line end -/
theorem line_ahead {T : Int → Sp.Str} {n p : Nat} (hp : p < n) (h : T p = [76, 70]) : edgeW T n p = !(decide (0 < p) && (T ((p : Int) - 1) == [67, 82])) := by
  unfold edgeW
  rw [if_neg (by omega)]
  by_cases h0 : p = 0
  · subst h0
    rw [if_pos (.inl rfl)]
    rfl
  · rw [if_neg (by omega), h, decide_eq_true (by omega)]
    generalize T ((p : Int) - 1) = a
    unfold midW
    cases ha : a == [67, 82] with
    | true => rfl
    | false =>
      have : (lineB a || lineB [76, 70]) = true := by
        have : lineB [76, 70] = true := rfl
        rw [this, Bool.or_true]
      rw [Bool.false_and, if_neg (by decide), if_pos this]
      rfl
theorem line_behind {T : Int → Sp.Str} {n p : Nat} (hp : p < n) (h : T p = [76, 70]) : edgeW T n ((p : Int) + 1) = true := by
  unfold edgeW
  rw [if_neg (by omega)]
  by_cases h0 : p + 1 = n
  · rw [if_pos (.inr (by omega))]
  · rw [if_neg (by omega), show (p : Int) + 1 - 1 = p by omega, h]
    generalize T ((p : Int) + 1) = b
    unfold midW
    rfl
/-! ### the breaks of a text -/
def wOf (Φ : Files) (zs : List Int) (i : Int) : Sp.Str := if 0 ≤ i ∧ i < zs.length then txOf Φ.word (zs.getD i.toNat 0) [] else []
theorem wOf_out (Φ : Files) (zs : List Int) (i : Int) (h : i < 0 ∨ (zs.length : Int) ≤ i) : wOf Φ zs i = [] := by
  unfold wOf
  rw [if_neg (by omega)]
theorem wOf_in (Φ : Files) (zs : List Int) (i : Nat) (h : i < zs.length) : wOf Φ zs i = txOf Φ.word zs[i] [] := by
  unfold wOf
  rw [if_pos (by omega), Int.toNat_natCast, List.getD_eq_getElem?_getD, List.getElem?_eq_getElem h]
  rfl
theorem wOf_get (Φ : Files) (zs : List Int) (i : Nat) : wOf Φ zs i = ((zs[i]?).map fun z => txOf Φ.word z []).getD [] := by
  by_cases h : i < zs.length
  · rw [wOf_in Φ zs i h, List.getElem?_eq_getElem h]
    rfl
  · rw [wOf_out Φ zs i (.inr (by omega)), List.getElem?_eq_none (by omega)]
    rfl
def awakeT (rs : List Rec) (i : Int) : Sp.Str := if 0 ≤ i ∧ i < 5 then firstOf rs (([99, 97, 110, 39, 116] : List Int).getD i.toNat 0) [] else []
def wordsB (rs : List Rec) : Bool := (firstOf rs 10 [] == [76, 70]) && (firstOf rs 13 [] == [67, 82]) && (firstOf rs 769 [] == [69, 120, 116, 101, 110, 100]) && (List.range 26).all (fun k => firstOf rs (97 + (k : Nat)) [] == [76, 101, 116, 116, 101, 114]) &&
  rs.all (fun x => !(fld0 x == [67, 82]) || (Nat.beq x.lo 13 && Nat.beq x.hi 13)) && edgeW (awakeT rs) 5 0 && !edgeW (awakeT rs) 5 3 && !edgeW (awakeT rs) 5 4 && edgeW (awakeT rs) 5 5
theorem word_breaks : wordsB (recsOf Tryz.f48) = true := by kernel_rfl
structure Words (Φ : Files) : Prop where
  lf : txOf Φ.word 10 [] = [76, 70]
  cr : ∀ r, txOf Φ.word r [] = [67, 82] ↔ r = 13
  mark : txOf Φ.word 769 [] = [69, 120, 116, 101, 110, 100]
  letters : ∀ r : Int, 97 ≤ r → r ≤ 122 → txOf Φ.word r [] = [76, 101, 116, 116, 101, 114]
  awake : edgeW (wOf Φ [99, 97, 110, 39, 116]) 5 0 = true ∧ edgeW (wOf Φ [99, 97, 110, 39, 116]) 5 3 = false ∧ edgeW (wOf Φ [99, 97, 110, 39, 116]) 5 4 = false ∧ edgeW (wOf Φ [99, 97, 110, 39, 116]) 5 5 = true
theorem words_of {Φ : Files} (hok : FilesOk Φ) (h : wordsB Φ.word = true) : Words Φ := by
  unfold wordsB at h
  simp only [Bool.and_eq_true, List.all_eq_true, Bool.or_eq_true, Bool.not_eq_true', beq_iff_eq] at h
  obtain ⟨⟨⟨⟨⟨⟨⟨⟨h1, h2⟩, h3⟩, h4⟩, h5⟩, h6⟩, h7⟩, h8⟩, h9⟩ := h
  have hf : ∀ r : Int, txOf Φ.word r [] = firstOf Φ.word r [] := fun r => txOf_first (listOk_hi hok.word) r []
  have hT : wOf Φ [99, 97, 110, 39, 116] = awakeT Φ.word := by
    funext i
    unfold wOf awakeT
    rw [hf]
    rfl
  refine ⟨by rw [hf]; exact h1, fun r => ⟨fun hr => ?_, ?_⟩, by rw [hf]; exact h3, fun r hr1 hr2 => ?_, ?_⟩
  · rw [hf] at hr
    exact first_only (c := 13) (fun x hx hx0 => by
      rcases h5 x hx with hn | hn
      · rw [hx0] at hn
        exact absurd hn (by decide)
      · exact ⟨Nat.eq_of_beq_eq_true hn.1, Nat.eq_of_beq_eq_true hn.2⟩) (by decide) r hr
  · rintro rfl
    rw [hf]
    exact h2
  · rw [hf]
    have := h4 (r - 97).toNat (List.mem_range.2 (by omega))
    rw [show 97 + (((r - 97).toNat : Nat) : Int) = r by omega] at this
    exact this
  · rw [hT]
    exact ⟨h6, h7, h8, h9⟩
set_option maxRecDepth 100000 in
theorem files_words : Words files := words_of files_ok word_breaks
/-! ### the laws of a text -/
theorem words_ahead {Φ : Files} (hw : Words Φ) (a b : List Int) : edgeW (wOf Φ (a ++ [10] ++ b)) (a ++ [10] ++ b).length (a.length : Nat) = !(decide (0 < a.length) && (a.getD (a.length - 1) 0 == 13)) := by
  have hl : (a ++ [10] ++ b).length = a.length + 1 + b.length := by simp; omega
  have hT : wOf Φ (a ++ [10] ++ b) (a.length : Nat) = [76, 70] := by
    rw [wOf_in Φ _ _ (by omega)]
    have : (a ++ [10] ++ b)[a.length]'(by omega) = 10 := by simp
    rw [this]
    exact hw.lf
  rw [line_ahead (by omega) hT]
  by_cases h0 : 0 < a.length
  · rw [decide_eq_true h0]
    have e : wOf Φ (a ++ [10] ++ b) ((a.length : Int) - 1) = txOf Φ.word (a.getD (a.length - 1) 0) [] := by
      rw [show (a.length : Int) - 1 = ((a.length - 1 : Nat) : Int) by omega, wOf_in Φ _ _ (by omega)]
      congr 1
      rw [List.getD_eq_getElem?_getD, List.getElem?_eq_getElem (by omega)]
      simp [List.getElem_append, show a.length - 1 < a.length by omega]
    rw [e]
    have hc := hw.cr (a.getD (a.length - 1) 0)
    generalize a.getD (a.length - 1) 0 = z at *
    by_cases hz : z = 13
    · rw [hc.2 hz, hz]
      rfl
    · rw [beq_eq_false_iff_ne.2 hz, beq_eq_false_iff_ne.2 (fun h => hz (hc.1 h))]
  · rw [decide_eq_false h0]
    rfl
theorem words_behind {Φ : Files} (hw : Words Φ) (a b : List Int) : edgeW (wOf Φ (a ++ [10] ++ b)) (a ++ [10] ++ b).length ((a.length : Nat) + 1) = true := by
  have hl : (a ++ [10] ++ b).length = a.length + 1 + b.length := by simp; omega
  have hT : wOf Φ (a ++ [10] ++ b) (a.length : Nat) = [76, 70] := by
    rw [wOf_in Φ _ _ (by omega)]
    have : (a ++ [10] ++ b)[a.length]'(by omega) = 10 := by simp
    rw [this]
    exact hw.lf
  exact line_behind (by omega) hT
theorem words_letters {Φ : Files} (hw : Words Φ) (zs : List Int) (h : ∀ z ∈ zs, 97 ≤ z ∧ z ≤ 122) (p : Nat) (hp : p < zs.length) : edgeW (wOf Φ zs) zs.length (p : Nat) = (p == 0) := by
  refine letters_edge (fun i h1 h2 => ?_) p hp
  obtain ⟨q, rfl⟩ := Int.eq_ofNat_of_zero_le h1
  have hz := h zs[q] (List.getElem_mem _)
  rw [wOf_in Φ zs q (by omega)]
  exact hw.letters _ hz.1 hz.2
/-- A text with a mark put in behind a letter. -/
theorem words_marked {Φ : Files} (hw : Words Φ) (a b : List Int) (h0 : 0 < a.length) (hl : txOf Φ.word (a.getD (a.length - 1) 0) [] = [76, 101, 116, 116, 101, 114]) : Marked (wOf Φ (a ++ b)) (wOf Φ (a ++ [769] ++ b)) (a ++ b).length a.length := by
  have e1 : (a ++ b).length = a.length + b.length := List.length_append
  have e2 : (a ++ [769] ++ b).length = a.length + 1 + b.length := by simp; omega
  refine ⟨h0, by omega, fun i hi => ?_, fun i hi => ?_, ?_, ?_, fun i hi => wOf_out Φ _ i hi⟩
  · by_cases hn : i < 0
    · rw [wOf_out Φ _ i (.inl hn), wOf_out Φ _ i (.inl hn)]
    · obtain ⟨q, rfl⟩ := Int.eq_ofNat_of_zero_le (show 0 ≤ i by omega)
      rw [wOf_get, wOf_get, List.append_assoc, List.getElem?_append_left (by omega), List.getElem?_append_left (by omega)]
  · obtain ⟨q, rfl⟩ := Int.eq_ofNat_of_zero_le (show 0 ≤ i by omega)
    rw [show (q : Int) + 1 = ((q + 1 : Nat) : Int) by omega, wOf_get, wOf_get, List.getElem?_append_right (by simp; omega), List.getElem?_append_right (by omega)]
    congr 3
    simp
  · rw [wOf_in Φ _ _ (by omega)]
    have : (a ++ [769] ++ b)[a.length]'(by omega) = 769 := by simp
    rw [this]
    exact hw.mark
  · rw [show (a.length : Int) - 1 = ((a.length - 1 : Nat) : Int) by omega, wOf_in Φ _ _ (by omega), ← hl]
    congr 1
    rw [List.getD_eq_getElem?_getD, List.getElem_append_left (by omega), List.getElem?_eq_getElem (by omega)]
    rfl
end Go.Proofs.YtkgomgfhfoomhaaGreatDoor
