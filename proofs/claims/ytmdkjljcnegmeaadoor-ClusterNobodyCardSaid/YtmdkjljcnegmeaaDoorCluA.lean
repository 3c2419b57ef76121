/- props: (*Tables).Cluster; cluster: kindOf, glued. -/
import Derived.Test.YtmdkjljcnegmeaaDoorAccW
import Derived.Test.YtmdkjljcnegmeaaDoorDag3
namespace Go.Proofs.YtmdkjljcnegmeaaDoor
open Go.RowKit
set_option linter.unusedVariables false
set_option linter.unusedSimpArgs false

def cluOf (Φ : Files) (r : Int) : Sp.Str := if 44032 ≤ r ∧ r ≤ 55203 then (if (r - 44032) % 28 = 0 then [76, 86] else [76, 86, 84]) else txOf Φ.clu r []
section
variable {w : World} {m : Nat} {Φ : Files}
theorem cluster_walk (h : TabAt w m Φ) (hok : FilesOk Φ) (r : Int) : Calls Tryd.prog 42 #[.pointer (some ⟨m + 3, 0, none⟩), .int .i64 r] w fun e w' => e = .returned (.string ⟨(cluOf Φ r).toArray⟩) ∧ Below w.heap.size w w' := by
  have hn := none_walk h
  obtain ⟨⟨p0, p1, p2, p3, p4, vv, kv, hb, hf⟩, _⟩ := h
  have hc : w.cell? ⟨m + 3, 3, none⟩ = some (.pointer (some ⟨p3, 0, none⟩)) := hb.cell 3
  have ho := or_walk hf.t3 r (by have := valsOf_len Φ.clu; have := hok.clu.le; omega) []
  have HN := Lib.hid hn
  have HO := Lib.hid ho
  clear hn ho hb hf hok
  unfold cluOf
  by_cases h1 : 44032 ≤ r
  · by_cases h2 : r ≤ 55203
    · rw [if_pos ⟨h1, h2⟩]
      obtain ⟨q, rfl⟩ : ∃ q : Nat, r = 44032 + (q : Int) := ⟨(r - 44032).toNat, by omega⟩
      have d1 : decide (44032 + (q : Int) < 44032) = false := by simp; omega
      have d2 : decide (44032 + (q : Int) > 55203) = false := by simp; omega
      have b0 : IntKind.i64.wrap (44032 + (q : Int) - 44032) = q := by rw [IntKind.wrap_i64]; omega
      have e0 : (44032 + (q : Int) - 44032) = q := by omega
      rw [e0]
      by_cases h3 : (q : Int) % 28 = 0
      · rw [if_pos h3]
        have d3 : ((q : Int) % 28 == 0) = true := by rw [beq_iff_eq]; exact h3
        clear h3 e0
        go_enter Tryd.func42, Tryd.ntmps42
        go_wp2_with (go_at_call 53; refine HN.out.mono ?_; rintro e w' ⟨rfl, rfl⟩)
        go_ret
        exact ⟨rfl, Below.refl _ _⟩
      · rw [if_neg h3]
        have d3 : ((q : Int) % 28 == 0) = false := by rw [beq_eq_false_iff_ne]; exact h3
        clear h3 e0
        go_enter Tryd.func42, Tryd.ntmps42
        go_wp2_with (go_at_call 53; refine HN.out.mono ?_; rintro e w' ⟨rfl, rfl⟩)
        go_ret
        exact ⟨rfl, Below.refl _ _⟩
    · rw [if_neg (by omega)]
      have d1 : decide (r < 44032) = false := by simp; omega
      have d2 : decide (r > 55203) = true := by simp; omega
      go_enter Tryd.func42, Tryd.ntmps42
      go_wp2_with (first | (go_at_call 53; refine HN.out.mono ?_; rintro e w' ⟨rfl, rfl⟩) | (go_at_call 54; refine HO.out.mono ?_; rintro e w1 ⟨rfl, hb1⟩; have HB1 := Lib.hid hb1; clear hb1))
      go_ret
      exact ⟨rfl, HB1.out⟩
  · rw [if_neg (by omega)]
    have d1 : decide (r < 44032) = true := by simp; omega
    go_enter Tryd.func42, Tryd.ntmps42
    go_wp2_with (first | (go_at_call 53; refine HN.out.mono ?_; rintro e w' ⟨rfl, rfl⟩) | (go_at_call 54; refine HO.out.mono ?_; rintro e w1 ⟨rfl, hb1⟩; have HB1 := Lib.hid hb1; clear hb1))
    go_ret
    exact ⟨rfl, HB1.out⟩
end
end Go.Proofs.YtmdkjljcnegmeaaDoor
