/- utf.Decode and rubricatorref01.Decode: the items of bytes; rubricatorref01.Encode. -/
import Derived.Test.YthoegenipbohmaaGreatDoorUtfP
import Derived.Test.YthoegenipbohmaaGreatDoorRefP
import Derived.Test.YthoegenipbohmaaGreatDoorAppM
import Derived.Deep.DeepCutAuto
import Derived.Laws.BitsLemmas
namespace Go.Proofs.YthoegenipbohmaaGreatDoor
open Go.RowKit Utf
set_option linter.unusedVariables false
set_option linter.unusedSimpArgs false

def bytz (bs : List Nat) : List Value := bs.map fun b => .int .u8 (b : Nat)
theorem bytz_len (bs : List Nat) : (bytz bs).length = bs.length := by unfold bytz; rw [List.length_map]
theorem bytz_get (bs : List Nat) (j : Nat) (h : j < bs.length) : (bytz bs)[j]? = some (.int .u8 (bs[j] : Nat)) := by
  unfold bytz
  rw [List.getElem?_map, List.getElem?_eq_getElem h]
  rfl
theorem bytz_one (bs : List Nat) : ∀ u ∈ bytz bs, u.oneCell' = true := by
  intro u hu
  obtain ⟨x, _, rfl⟩ := List.mem_map.1 hu
  rfl
abbrev BytesO (w : World) (B : Nat) (v : Value) (bs : List Nat) : Prop := w.ownsRow B 5 1 v bs.length (bytz bs)
/-- A slice of bytes, told by its cells. -/
def BytesAt (w : World) (v : Value) (bs : List Nat) : Prop := ∃ A c, v = .slice A bs.length c ∧ bs.length ≤ c ∧ bs.length ≤ 9223372036854775807 ∧ (A = none → c = 0) ∧ (∀ b ∈ bs, b ≤ 255) ∧ ∀ ad, A = some ad → ∀ j (h : j < bs.length), w.cell? (ad.add j) = some (.int .u8 (bs[j] : Nat))
theorem BytesAt.below {w w' : World} {v : Value} {bs : List Nat} (h : BytesAt w v bs) (hb : Below w.heap.size w w') : BytesAt w' v bs := by
  obtain ⟨A, c, rfl, h1, h2, h3, h4, h5⟩ := h
  exact ⟨A, c, rfl, h1, h2, h3, h4, fun ad e j hj => cell_later hb (h5 ad e j hj)⟩
theorem BytesAt.of_own {w : World} {B : Nat} {v : Value} {bs : List Nat} (h : BytesO w B v bs) (hb : ∀ b ∈ bs, b ≤ 255) : BytesAt w v bs := by
  have hl := own_len h
  unfold maxLen at hl
  have h' := h.2
  rcases h' with ⟨rfl, h0⟩ | ⟨g, cap, cur, rfl, _, _, hnc, hcm, _⟩
  · exact ⟨none, 0, by rw [h0], by omega, by omega, fun _ => rfl, hb, fun ad e => by cases e⟩
  · refine ⟨_, cap, rfl, hnc, by omega, (fun e => by cases e), hb, fun ad e j hj => ?_⟩
    cases e
    rw [add_plain, Nat.zero_add]
    exact own_cell h j _ (bytz_get bs j hj)
theorem BytesAt.cut {w : World} {A : Option Addr} {n c k : Nat} {bs : List Nat} (h : BytesAt w (.slice A n c) bs) (hk : k ≤ n) : BytesAt w (.slice A k c) (bs.take k) := by
  obtain ⟨A', c', e, h1, h2, h3, h4, h5⟩ := h
  injection e with e1 e2 e3
  subst e1 e2 e3
  have hl : (bs.take k).length = k := by rw [List.length_take]; omega
  refine ⟨A, c, by rw [hl], by omega, by omega, h3, fun b hb => h4 b (List.mem_of_mem_take hb), fun ad e j hj => ?_⟩
  rw [List.getElem_take]
  exact h5 ad e j (by omega)
theorem BytesAt.drop {w : World} {A : Option Addr} {n c q : Nat} {bs : List Nat} (h : BytesAt w (.slice A n c) bs) (hq : q ≤ n) : BytesAt w (sliced A q n c 1) (bs.drop q) := by
  obtain ⟨A', c', e, h1, h2, h3, h4, h5⟩ := h
  injection e with e1 e2 e3
  subst e1 e2 e3
  have hl : (bs.drop q).length = bs.length - q := List.length_drop
  have h4' : ∀ b ∈ bs.drop q, b ≤ 255 := fun b hb => h4 b (List.mem_of_mem_drop hb)
  unfold sliced
  cases A with
  | none =>
    have := h3 rfl
    refine ⟨none, c - q, ?_, by omega, by omega, (fun _ => by omega), h4', fun ad e => by cases e⟩
    rw [hl]
    split <;> rfl
  | some ad =>
    by_cases hcq : c = q
    · rw [if_pos hcq]
      exact ⟨some ad, c - q, by rw [hl], by omega, by omega, (fun e => by cases e), h4', fun ad' e j hj => by omega⟩
    · rw [if_neg hcq]
      refine ⟨some (ad.add (q * 1)), c - q, by rw [hl]; rfl, by omega, by omega, (fun e => by cases e), h4', fun ad' e j hj => ?_⟩
      cases e
      rw [Nat.mul_one, Addr.add_add, List.getElem_drop]
      exact h5 ad rfl (q + j) (by omega)
theorem add_noneU (a : Addr) : a.add 0 = a := by
  unfold Addr.add
  split <;> simp_all
theorem BytesAt.some {w : World} {v : Value} {b : Nat} {t : List Nat} (h : BytesAt w v (b :: t)) : ∃ ad c, v = .slice (some ad) (t.length + 1) c ∧ t.length + 1 ≤ c ∧ b ≤ 255 ∧ w.cell? (ad.add 0) = some (.int .u8 b) ∧ ∀ j (h : j < t.length), t[j] ≤ 255 ∧ w.cell? (ad.add (j + 1)) = some (.int .u8 (t[j] : Nat)) := by
  obtain ⟨A, c, rfl, h1, h2, h3, h4, h5⟩ := h
  rw [List.length_cons] at h1
  cases A with
  | none => have := h3 rfl; omega
  | some ad =>
    refine ⟨ad, c, rfl, h1, h4 b List.mem_cons_self, h5 ad rfl 0 (by rw [List.length_cons]; omega), fun j hj => ⟨h4 _ (List.mem_cons_of_mem _ (List.getElem_mem hj)), ?_⟩⟩
    have := h5 ad rfl (j + 1) (by rw [List.length_cons]; omega)
    rw [List.getElem_cons_succ] at this
    exact this
theorem tl0 {b : Nat} (h : b < 194 ∨ 244 < b) : szOf b ≤ 1 := by
  unfold szOf
  split
  · exact Nat.le_refl _
  · split
    · exact Nat.zero_le _
    · rw [if_neg (by omega), if_neg (by omega), if_neg (by omega)]
      exact Nat.zero_le _
theorem tl2 {b : Nat} (h : 194 ≤ b ∧ b ≤ 223) : 2 ≤ szOf b ∧ (1 : Int) = (szOf b : Int) - 1 ∧ (128 : Int) = (loOf b 1 : Nat) ∧ (191 : Int) = (hiOf b 1 : Nat) := by
  have e1 : szOf b = 2 := by unfold szOf; rw [if_neg (by omega)]; rw [if_neg (by omega)]; rw [if_pos (by omega)]
  have e2 : loOf b 1 = 128 := by unfold loOf; rw [if_pos rfl]; rw [if_neg (by omega)]; rw [if_neg (by omega)]
  have e3 : hiOf b 1 = 191 := by unfold hiOf; rw [if_pos rfl]; rw [if_neg (by omega)]; rw [if_neg (by omega)]
  rw [e1, e2, e3]
  exact ⟨by decide, by decide, rfl, rfl⟩
theorem tl3 {b : Nat} (h : b = 224) : 2 ≤ szOf b ∧ (2 : Int) = (szOf b : Int) - 1 ∧ (160 : Int) = (loOf b 1 : Nat) ∧ (191 : Int) = (hiOf b 1 : Nat) := by
  have e1 : szOf b = 3 := by unfold szOf; rw [if_neg (by omega)]; rw [if_neg (by omega)]; rw [if_neg (by omega)]; rw [if_pos (by omega)]
  have e2 : loOf b 1 = 160 := by unfold loOf; rw [if_pos rfl]; rw [if_pos (by omega)]
  have e3 : hiOf b 1 = 191 := by unfold hiOf; rw [if_pos rfl]; rw [if_neg (by omega)]; rw [if_neg (by omega)]
  rw [e1, e2, e3]
  exact ⟨by decide, by decide, rfl, rfl⟩
theorem tl4 {b : Nat} (h : b = 237) : 2 ≤ szOf b ∧ (2 : Int) = (szOf b : Int) - 1 ∧ (128 : Int) = (loOf b 1 : Nat) ∧ (159 : Int) = (hiOf b 1 : Nat) := by
  have e1 : szOf b = 3 := by unfold szOf; rw [if_neg (by omega)]; rw [if_neg (by omega)]; rw [if_neg (by omega)]; rw [if_pos (by omega)]
  have e2 : loOf b 1 = 128 := by unfold loOf; rw [if_pos rfl]; rw [if_neg (by omega)]; rw [if_neg (by omega)]
  have e3 : hiOf b 1 = 159 := by unfold hiOf; rw [if_pos rfl]; rw [if_pos (by omega)]
  rw [e1, e2, e3]
  exact ⟨by decide, by decide, rfl, rfl⟩
theorem tl5 {b : Nat} (h : 224 < b ∧ b ≤ 239 ∧ b ≠ 237) : 2 ≤ szOf b ∧ (2 : Int) = (szOf b : Int) - 1 ∧ (128 : Int) = (loOf b 1 : Nat) ∧ (191 : Int) = (hiOf b 1 : Nat) := by
  have e1 : szOf b = 3 := by unfold szOf; rw [if_neg (by omega)]; rw [if_neg (by omega)]; rw [if_neg (by omega)]; rw [if_pos (by omega)]
  have e2 : loOf b 1 = 128 := by unfold loOf; rw [if_pos rfl]; rw [if_neg (by omega)]; rw [if_neg (by omega)]
  have e3 : hiOf b 1 = 191 := by unfold hiOf; rw [if_pos rfl]; rw [if_neg (by omega)]; rw [if_neg (by omega)]
  rw [e1, e2, e3]
  exact ⟨by decide, by decide, rfl, rfl⟩
theorem tl6 {b : Nat} (h : b = 240) : 2 ≤ szOf b ∧ (3 : Int) = (szOf b : Int) - 1 ∧ (144 : Int) = (loOf b 1 : Nat) ∧ (191 : Int) = (hiOf b 1 : Nat) := by
  have e1 : szOf b = 4 := by unfold szOf; rw [if_neg (by omega)]; rw [if_neg (by omega)]; rw [if_neg (by omega)]; rw [if_neg (by omega)]; rw [if_pos (by omega)]
  have e2 : loOf b 1 = 144 := by unfold loOf; rw [if_pos rfl]; rw [if_neg (by omega)]; rw [if_pos (by omega)]
  have e3 : hiOf b 1 = 191 := by unfold hiOf; rw [if_pos rfl]; rw [if_neg (by omega)]; rw [if_neg (by omega)]
  rw [e1, e2, e3]
  exact ⟨by decide, by decide, rfl, rfl⟩
theorem tl7 {b : Nat} (h : b = 244) : 2 ≤ szOf b ∧ (3 : Int) = (szOf b : Int) - 1 ∧ (128 : Int) = (loOf b 1 : Nat) ∧ (143 : Int) = (hiOf b 1 : Nat) := by
  have e1 : szOf b = 4 := by unfold szOf; rw [if_neg (by omega)]; rw [if_neg (by omega)]; rw [if_neg (by omega)]; rw [if_neg (by omega)]; rw [if_pos (by omega)]
  have e2 : loOf b 1 = 128 := by unfold loOf; rw [if_pos rfl]; rw [if_neg (by omega)]; rw [if_neg (by omega)]
  have e3 : hiOf b 1 = 143 := by unfold hiOf; rw [if_pos rfl]; rw [if_neg (by omega)]; rw [if_pos (by omega)]
  rw [e1, e2, e3]
  exact ⟨by decide, by decide, rfl, rfl⟩
theorem tl8 {b : Nat} (h : 240 < b ∧ b < 244) : 2 ≤ szOf b ∧ (3 : Int) = (szOf b : Int) - 1 ∧ (128 : Int) = (loOf b 1 : Nat) ∧ (191 : Int) = (hiOf b 1 : Nat) := by
  have e1 : szOf b = 4 := by unfold szOf; rw [if_neg (by omega)]; rw [if_neg (by omega)]; rw [if_neg (by omega)]; rw [if_neg (by omega)]; rw [if_pos (by omega)]
  have e2 : loOf b 1 = 128 := by unfold loOf; rw [if_pos rfl]; rw [if_neg (by omega)]; rw [if_neg (by omega)]
  have e3 : hiOf b 1 = 191 := by unfold hiOf; rw [if_pos rfl]; rw [if_neg (by omega)]; rw [if_neg (by omega)]
  rw [e1, e2, e3]
  exact ⟨by decide, by decide, rfl, rfl⟩
set_option maxRecDepth 100000 in
theorem tail_walk (w : World) (b : Nat) (hb : b ≤ 255) : Calls Tryz.prog 141 #[.int .u8 b] w fun e w' => (∃ lo hi n : Int, e = .returned (.tuple #[.int .u8 lo, .int .u8 hi, .int .i64 n]) ∧ ((szOf b ≤ 1 ∧ n = 0) ∨ (2 ≤ szOf b ∧ n = (szOf b : Int) - 1 ∧ lo = (loOf b 1 : Nat) ∧ hi = (hiOf b 1 : Nat)))) ∧ w = w' := by
  obtain ⟨x, hx⟩ : ∃ x : Int, x = (b : Nat) := ⟨_, rfl⟩
  rw [← hx]
  go_enter Tryz.func141, Tryz.ntmps141
  go_wp2_with fail
  all_goals
    (refine bodyPost_ret (by simp [results, Tryz.results141, go_sem]; rfl) rfl ?_)
    refine ⟨⟨_, _, _, rfl, ?_⟩, rfl⟩
    (try simp only [beq_eq_false_iff_ne, beq_iff_eq, ne_eq, decide_eq_false_iff_not, decide_eq_true_eq] at *)
    first
      | exact .inl ⟨tl0 (by omega), rfl⟩
      | exact .inl ⟨tl0 (by omega), trivial⟩
      | exact .inr (tl2 (by omega))
      | exact .inr (tl3 (by omega))
      | exact .inr (tl4 (by omega))
      | exact .inr (tl5 (by omega))
      | exact .inr (tl6 (by omega))
      | exact .inr (tl7 (by omega))
      | exact .inr (tl8 (by omega))
      | (exfalso; omega)
theorem size_walk (w : World) (b : Nat) (hb : b ≤ 255) : Calls Tryz.prog 97 #[.int .u8 b] w fun e w' => e = .returned (.int .i64 (szOf b : Nat)) ∧ w = w' := by
  obtain ⟨s, hs⟩ : ∃ s : Int, s = (szOf b : Nat) := ⟨_, rfl⟩
  have hs' : (b ≤ 127 ∧ s = 1) ∨ (127 < b ∧ b < 194 ∧ s = 0) ∨ (194 ≤ b ∧ b ≤ 223 ∧ s = 2) ∨ (224 ≤ b ∧ b ≤ 239 ∧ s = 3) ∨ (240 ≤ b ∧ b ≤ 244 ∧ s = 4) ∨ (244 < b ∧ s = 0) := by
    rw [hs]
    unfold szOf
    (repeat' split) <;> simp <;> omega
  rw [← hs]
  clear hs
  obtain ⟨x, hx⟩ : ∃ x : Int, x = (b : Nat) := ⟨_, rfl⟩
  rw [← hx]
  go_enter Tryz.func97, Tryz.ntmps97
  go_wp2_with fail
  all_goals
    go_ret
    refine ⟨?_, rfl⟩
    (try simp only [beq_eq_false_iff_ne, beq_iff_eq, ne_eq, decide_eq_false_iff_not, decide_eq_true_eq, Bool.and_eq_true, Bool.and_eq_false_iff, Bool.or_eq_true, Bool.or_eq_false_iff] at *)
    first
      | (obtain rfl : s = 1 := by omega
         rfl)
      | (obtain rfl : s = 0 := by omega
         rfl)
      | (obtain rfl : s = 2 := by omega
         rfl)
      | (obtain rfl : s = 3 := by omega
         rfl)
      | (obtain rfl : s = 4 := by omega
         rfl)
end Go.Proofs.YthoegenipbohmaaGreatDoor
