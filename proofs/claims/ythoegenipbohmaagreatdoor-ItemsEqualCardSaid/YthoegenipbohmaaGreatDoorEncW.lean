/- rubricatorref01.Encode; the bytes of code points (rubricatorlaw12.ItemsEqual's own function). -/
import Derived.Test.YthoegenipbohmaaGreatDoorItmD
namespace Go.Proofs.YthoegenipbohmaaGreatDoor
open Go.RowKit Utf Itm
set_option linter.unusedVariables false
set_option linter.unusedSimpArgs false
def EncSaid (r : Int) (w : World) (e : Ending) (w' : World) : Prop := ∃ v', e = .returned (.tuple #[v', .bool (valid r)]) ∧ BytesO w' w.heap.size v' (encOf r) ∧ Below w.heap.size w w'
theorem own_lits (w : World) (e : TypeId) (cs : Array Value) (n : Nat) (hn : cs.size = n) (hm : n ≤ maxLen) : (w.alloc (.cells cs e)).ownsRow w.heap.size e 1 (.slice (some ⟨w.heap.size, 0, none⟩) n n) n cs.toList :=
  ⟨by simp [hn], .inr ⟨w.heap.size, n, cs, rfl, Nat.le_refl _, row_new _ _, Nat.le_refl _, hm, by omega, by rw [Nat.mul_one, List.take_of_length_le (by simp [hn])]⟩⟩
theorem own_of_eq {w : World} {base n : Nat} {e : TypeId} {size : Nat} {v : Value} {xs ys : List Value} (h : w.ownsRow base e size v n xs) (hx : xs = ys) : w.ownsRow base e size v n ys := hx ▸ h
set_option maxRecDepth 100000 in
set_option maxHeartbeats 800000 in
theorem encode_walk (w : World) (r : Int) : Calls Tryz.prog 41 #[.int .i64 r] w (EncSaid r w) := by
  by_cases hv : valid r = true
  · have hv' := hv
    unfold valid at hv'
    simp only [Bool.and_eq_true, Bool.not_eq_true', Bool.and_eq_false_iff, decide_eq_true_eq, decide_eq_false_iff_not] at hv'
    obtain ⟨n, rfl⟩ := Int.eq_ofNat_of_zero_le hv'.1.1
    have hn : n ≤ 1114111 := by omega
    have hs : n < 55296 ∨ 57343 < n := by omega
    have HFin := Lib.hid (fun (W : World) (v : Value) (hb : BytesO W w.heap.size v (encN n)) (hB : Below w.heap.size w W) => (show EncSaid (n : Int) w (.returned (.tuple #[v, .bool true])) W from ⟨v, by rw [hv], by unfold encOf; rw [if_pos hv]; exact hb, hB⟩))
    have h0 : decide ((n : Int) < 0) = false := by rw [decide_eq_false_iff_not]; omega
    have h1 : decide ((n : Int) > 1114111) = false := by rw [decide_eq_false_iff_not]; omega
    have h1' : decide ((1114111 : Int) < n) = false := by rw [decide_eq_false_iff_not]; omega
    have h2 : (decide ((n : Int) ≥ 55296) && decide ((n : Int) ≤ 57343)) = false := by
      rcases hs with h | h
      · rw [show decide ((n : Int) ≥ 55296) = false by rw [decide_eq_false_iff_not]; omega]; rfl
      · rw [show decide ((n : Int) ≤ 57343) = false by rw [decide_eq_false_iff_not]; omega, Bool.and_false]
    clear hv hv'
    have HS := Lib.hid hs
    clear hs
    by_cases c1 : n < 128
    · have d1 : decide ((n : Int) < 128) = true := by rw [decide_eq_true_eq]; omega
      have e1 : encN n = [n] := by unfold encN; rw [if_pos c1]
      rw [e1] at HFin
      have g2 : decide ((n : Int) ≥ 55296) = false := by rw [decide_eq_false_iff_not]; omega
      go_enter Tryz.func41, Tryz.ntmps41
      go_wp2_with fail
      go_ret2
      refine HFin.out _ _ (own_of_eq (own_lits w _ #[_] 1 rfl (by decide)) ?_) (alloc_below _ _)
      simp [bytz]
      try omega
    · have d1 : decide ((n : Int) < 128) = false := by rw [decide_eq_false_iff_not]; omega
      by_cases c2 : n < 2048
      · have d2 : decide ((n : Int) < 2048) = true := by rw [decide_eq_true_eq]; omega
        have e1 : encN n = [192 + n / 64, 128 + n % 64] := by unfold encN; rw [if_neg c1, if_pos c2]
        rw [e1] at HFin
        have g2 : decide ((n : Int) ≥ 55296) = false := by rw [decide_eq_false_iff_not]; omega
        go_enter Tryz.func41, Tryz.ntmps41
        go_wp2_with fail
        go_ret2
        refine HFin.out _ _ (own_of_eq (own_lits w _ #[_, _] 2 rfl (by decide)) ?_) (alloc_below _ _)
        simp [bytz, wrap64]
        try omega
      · have d2 : decide ((n : Int) < 2048) = false := by rw [decide_eq_false_iff_not]; omega
        by_cases c3 : n < 65536
        · have d3 : decide ((n : Int) < 65536) = true := by rw [decide_eq_true_eq]; omega
          have e1 : encN n = [224 + n / 4096, 128 + n / 64 % 64, 128 + n % 64] := by unfold encN; rw [if_neg c1, if_neg c2, if_pos c3]
          rw [e1] at HFin
          by_cases g : n < 55296
          · have g2 : decide ((n : Int) ≥ 55296) = false := by rw [decide_eq_false_iff_not]; omega
            go_enter Tryz.func41, Tryz.ntmps41
            go_wp2_with fail
            go_ret2
            refine HFin.out _ _ (own_of_eq (own_lits w _ #[_, _, _] 3 rfl (by decide)) ?_) (alloc_below _ _)
            simp [bytz, wrap64]
            try omega
          · have g2 : decide ((n : Int) ≥ 55296) = true := by rw [decide_eq_true_eq]; omega
            have g3 : decide ((n : Int) ≤ 57343) = false := by rw [decide_eq_false_iff_not]; have := HS.out; omega
            go_enter Tryz.func41, Tryz.ntmps41
            go_wp2_with fail
            go_ret2
            refine HFin.out _ _ (own_of_eq (own_lits w _ #[_, _, _] 3 rfl (by decide)) ?_) (alloc_below _ _)
            simp [bytz, wrap64]
            try omega
        · have d3 : decide ((n : Int) < 65536) = false := by rw [decide_eq_false_iff_not]; omega
          have e1 : encN n = [240 + n / 262144, 128 + n / 4096 % 64, 128 + n / 64 % 64, 128 + n % 64] := by unfold encN; rw [if_neg c1, if_neg c2, if_neg c3]
          rw [e1] at HFin
          have g2 : decide ((n : Int) ≥ 55296) = true := by rw [decide_eq_true_eq]; omega
          have g3 : decide ((n : Int) ≤ 57343) = false := by rw [decide_eq_false_iff_not]; omega
          go_enter Tryz.func41, Tryz.ntmps41
          go_wp2_with fail
          go_ret2
          refine HFin.out _ _ (own_of_eq (own_lits w _ #[_, _, _, _] 4 rfl (by decide)) ?_) (alloc_below _ _)
          simp [bytz, wrap64]
          try omega
  · have hv2 : valid r = false := by simpa using hv
    have HFin := Lib.hid (show EncSaid r w (.returned (.tuple #[.slice none 0 0, .bool false])) w from ⟨_, by rw [hv2], by unfold encOf; rw [if_neg hv]; exact World.ownsRow_nil _ _ _ _, Below.refl _ _⟩)
    unfold valid at hv2
    simp only [Bool.and_eq_false_iff, Bool.not_eq_false', Bool.and_eq_true, decide_eq_true_eq, decide_eq_false_iff_not] at hv2
    by_cases c0 : r < 0
    · have d0 : decide (r < 0) = true := decide_eq_true c0
      clear hv hv2 c0
      go_enter Tryz.func41, Tryz.ntmps41
      go_wp2_with fail
      go_ret2
      exact HFin.out
    · have d0 : decide (r < 0) = false := decide_eq_false c0
      by_cases c1 : r > 1114111
      · have d1 : decide (r > 1114111) = true := decide_eq_true c1
        clear hv hv2 c0 c1
        go_enter Tryz.func41, Tryz.ntmps41
        go_wp2_with fail
        go_ret2
        exact HFin.out
      · have d1 : decide (r > 1114111) = false := decide_eq_false c1
        have d2 : decide (r ≥ 55296) = true := by rw [decide_eq_true_eq]; omega
        have d3 : decide (r ≤ 57343) = true := by rw [decide_eq_true_eq]; omega
        clear hv hv2 c0 c1
        go_enter Tryz.func41, Tryz.ntmps41
        go_wp2_with fail
        go_ret2
        exact HFin.out
end Go.Proofs.YthoegenipbohmaaGreatDoor
