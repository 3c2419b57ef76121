/- props: (*Tables).Cluster; cluster: kindOf, glued. cluster: kindOf, glued. The text of kindOf is printed by a program of mine: the same step for each name. cluster: the closure of Edge that tells the kind at a place. cluster.Edge. -/
import Derived.Test.YtkgomgfhfoomhaaGreatDoorAccW
import Derived.Test.YtkgomgfhfoomhaaGreatDoorDags
import Derived.Test.YtkgomgfhfoomhaaGreatDoorLod2
import Derived.Test.YtkgomgfhfoomhaaGreatDoorIntsA
namespace Go.Proofs.YtkgomgfhfoomhaaGreatDoor
open Go.RowKit
set_option linter.unusedVariables false
set_option linter.unusedSimpArgs false

def cluOf (Φ : Files) (r : Int) : Sp.Str := if 44032 ≤ r ∧ r ≤ 55203 then (if (r - 44032) % 28 = 0 then [76, 86] else [76, 86, 84]) else txOf Φ.clu r []
section
variable {w : World} {m : Nat} {Φ : Files}
theorem cluster_walk (h : TabAt w m Φ) (hok : FilesOk Φ) (r : Int) : Calls Tryz.prog 65 #[.pointer (some ⟨m + 3, 0, none⟩), .int .i64 r] w fun e w' => e = .returned (.string ⟨(cluOf Φ r).toArray⟩) ∧ Below w.heap.size w w' := by
  have hn := none_walk h
  obtain ⟨⟨p0, p1, p2, p3, p4, vv, kv, hb, hf⟩, _⟩ := h
  have hc : w.cell? ⟨m + 3, 3, none⟩ = some (.pointer (some ⟨p3, 0, none⟩)) := hb.cell 3
  have ho := or_walk hf.t3 r (by have := valsOf_len Φ.clu; have := hok.clu.le; omega) []
  have HN := Lib.hid hn
  have HO := Lib.hid ho
  clear hn ho hb hf hok
  unfold cluOf
  by_cases h1 : 44032 ≤ r
  · by_cases h2 : r ≤ 55203
    · rw [if_pos ⟨h1, h2⟩]
      obtain ⟨q, rfl⟩ : ∃ q : Nat, r = 44032 + (q : Int) := ⟨(r - 44032).toNat, by omega⟩
      have d1 : decide (44032 + (q : Int) < 44032) = false := by simp; omega
      have d2 : decide (44032 + (q : Int) > 55203) = false := by simp; omega
      have b0 : IntKind.i64.wrap (44032 + (q : Int) - 44032) = q := by rw [IntKind.wrap_i64]; omega
      have e0 : (44032 + (q : Int) - 44032) = q := by omega
      rw [e0]
      by_cases h3 : (q : Int) % 28 = 0
      · rw [if_pos h3]
        have d3 : ((q : Int) % 28 == 0) = true := by rw [beq_iff_eq]; exact h3
        clear h3 e0
        go_enter Tryz.func65, Tryz.ntmps65
        go_wp2_with (go_at_call 108; refine HN.out.mono ?_; rintro e w' ⟨rfl, rfl⟩)
        go_ret
        exact ⟨rfl, Below.refl _ _⟩
      · rw [if_neg h3]
        have d3 : ((q : Int) % 28 == 0) = false := by rw [beq_eq_false_iff_ne]; exact h3
        clear h3 e0
        go_enter Tryz.func65, Tryz.ntmps65
        go_wp2_with (go_at_call 108; refine HN.out.mono ?_; rintro e w' ⟨rfl, rfl⟩)
        go_ret
        exact ⟨rfl, Below.refl _ _⟩
    · rw [if_neg (by omega)]
      have d1 : decide (r < 44032) = false := by simp; omega
      have d2 : decide (r > 55203) = true := by simp; omega
      go_enter Tryz.func65, Tryz.ntmps65
      go_wp2_with (first | (go_at_call 108; refine HN.out.mono ?_; rintro e w' ⟨rfl, rfl⟩) | (go_at_call 109; refine HO.out.mono ?_; rintro e w1 ⟨rfl, hb1⟩; have HB1 := Lib.hid hb1; clear hb1))
      go_ret
      exact ⟨rfl, HB1.out⟩
  · rw [if_neg (by omega)]
    have d1 : decide (r < 44032) = true := by simp; omega
    go_enter Tryz.func65, Tryz.ntmps65
    go_wp2_with (first | (go_at_call 108; refine HN.out.mono ?_; rintro e w' ⟨rfl, rfl⟩) | (go_at_call 109; refine HO.out.mono ?_; rintro e w1 ⟨rfl, hb1⟩; have HB1 := Lib.hid hb1; clear hb1))
    go_ret
    exact ⟨rfl, HB1.out⟩
end
end Go.Proofs.YtkgomgfhfoomhaaGreatDoor
namespace Go.Proofs.YtkgomgfhfoomhaaGreatDoor
open Go.RowKit
set_option linter.unusedVariables false
set_option linter.unusedSimpArgs false

def kindNames : List Sp.Str := [[67, 82], [76, 70], [67, 111, 110, 116, 114, 111, 108], [69, 120, 116, 101, 110, 100], [90, 87, 74], [83, 112, 97, 99, 105, 110, 103, 77, 97, 114, 107], [80, 114, 101, 112, 101, 110, 100], [80, 105, 99, 116, 111, 103, 114, 97, 112, 104, 105, 99], [70, 108, 97, 103], [76], [86], [84], [76, 86], [76, 86, 84]]
def kindN (s : Sp.Str) : Nat := (kindNames.idxOf s + 1) % 15
theorem kindN_le (s : Sp.Str) : kindN s ≤ 14 := by unfold kindN; omega
theorem kindN_other {s : Sp.Str} (h : s ∉ kindNames) : kindN s = 0 := by
  unfold kindN
  rw [List.idxOf_eq_length h]
  rfl
set_option maxRecDepth 100000 in
theorem kind_walk (b : ByteArray) (w : World) : Calls Tryz.prog 64 #[.string b] w fun e w' => e = .returned (.int .i64 (kindN b.toList)) ∧ w = w' := by
  by_cases n0 : b.toList = [67, 82]
  · have k : kindN b.toList = 1 := by rw [n0]; rfl
    rw [k]
    have e0 : (b.toList == [67, 82]) = true := beq_iff_eq.2 n0
    clear k
    go_enter Tryz.func64, Tryz.ntmps64
    go_wp2
    go_ret
    exact ⟨rfl, rfl⟩
  by_cases n1 : b.toList = [76, 70]
  · have k : kindN b.toList = 2 := by rw [n1]; rfl
    rw [k]
    have e0 : (b.toList == [67, 82]) = false := beq_eq_false_iff_ne.2 n0
    have e1 : (b.toList == [76, 70]) = true := beq_iff_eq.2 n1
    clear k n0
    go_enter Tryz.func64, Tryz.ntmps64
    go_wp2
    go_ret
    exact ⟨rfl, rfl⟩
  by_cases n2 : b.toList = [67, 111, 110, 116, 114, 111, 108]
  · have k : kindN b.toList = 3 := by rw [n2]; rfl
    rw [k]
    have e0 : (b.toList == [67, 82]) = false := beq_eq_false_iff_ne.2 n0
    have e1 : (b.toList == [76, 70]) = false := beq_eq_false_iff_ne.2 n1
    have e2 : (b.toList == [67, 111, 110, 116, 114, 111, 108]) = true := beq_iff_eq.2 n2
    clear k n0 n1
    go_enter Tryz.func64, Tryz.ntmps64
    go_wp2
    go_ret
    exact ⟨rfl, rfl⟩
  by_cases n3 : b.toList = [69, 120, 116, 101, 110, 100]
  · have k : kindN b.toList = 4 := by rw [n3]; rfl
    rw [k]
    have e0 : (b.toList == [67, 82]) = false := beq_eq_false_iff_ne.2 n0
    have e1 : (b.toList == [76, 70]) = false := beq_eq_false_iff_ne.2 n1
    have e2 : (b.toList == [67, 111, 110, 116, 114, 111, 108]) = false := beq_eq_false_iff_ne.2 n2
    have e3 : (b.toList == [69, 120, 116, 101, 110, 100]) = true := beq_iff_eq.2 n3
    clear k n0 n1 n2
    go_enter Tryz.func64, Tryz.ntmps64
    go_wp2
    go_ret
    exact ⟨rfl, rfl⟩
  by_cases n4 : b.toList = [90, 87, 74]
  · have k : kindN b.toList = 5 := by rw [n4]; rfl
    rw [k]
    have e0 : (b.toList == [67, 82]) = false := beq_eq_false_iff_ne.2 n0
    have e1 : (b.toList == [76, 70]) = false := beq_eq_false_iff_ne.2 n1
    have e2 : (b.toList == [67, 111, 110, 116, 114, 111, 108]) = false := beq_eq_false_iff_ne.2 n2
    have e3 : (b.toList == [69, 120, 116, 101, 110, 100]) = false := beq_eq_false_iff_ne.2 n3
    have e4 : (b.toList == [90, 87, 74]) = true := beq_iff_eq.2 n4
    clear k n0 n1 n2 n3
    go_enter Tryz.func64, Tryz.ntmps64
    go_wp2
    go_ret
    exact ⟨rfl, rfl⟩
  by_cases n5 : b.toList = [83, 112, 97, 99, 105, 110, 103, 77, 97, 114, 107]
  · have k : kindN b.toList = 6 := by rw [n5]; rfl
    rw [k]
    have e0 : (b.toList == [67, 82]) = false := beq_eq_false_iff_ne.2 n0
    have e1 : (b.toList == [76, 70]) = false := beq_eq_false_iff_ne.2 n1
    have e2 : (b.toList == [67, 111, 110, 116, 114, 111, 108]) = false := beq_eq_false_iff_ne.2 n2
    have e3 : (b.toList == [69, 120, 116, 101, 110, 100]) = false := beq_eq_false_iff_ne.2 n3
    have e4 : (b.toList == [90, 87, 74]) = false := beq_eq_false_iff_ne.2 n4
    have e5 : (b.toList == [83, 112, 97, 99, 105, 110, 103, 77, 97, 114, 107]) = true := beq_iff_eq.2 n5
    clear k n0 n1 n2 n3 n4
    go_enter Tryz.func64, Tryz.ntmps64
    go_wp2
    go_ret
    exact ⟨rfl, rfl⟩
  by_cases n6 : b.toList = [80, 114, 101, 112, 101, 110, 100]
  · have k : kindN b.toList = 7 := by rw [n6]; rfl
    rw [k]
    have e0 : (b.toList == [67, 82]) = false := beq_eq_false_iff_ne.2 n0
    have e1 : (b.toList == [76, 70]) = false := beq_eq_false_iff_ne.2 n1
    have e2 : (b.toList == [67, 111, 110, 116, 114, 111, 108]) = false := beq_eq_false_iff_ne.2 n2
    have e3 : (b.toList == [69, 120, 116, 101, 110, 100]) = false := beq_eq_false_iff_ne.2 n3
    have e4 : (b.toList == [90, 87, 74]) = false := beq_eq_false_iff_ne.2 n4
    have e5 : (b.toList == [83, 112, 97, 99, 105, 110, 103, 77, 97, 114, 107]) = false := beq_eq_false_iff_ne.2 n5
    have e6 : (b.toList == [80, 114, 101, 112, 101, 110, 100]) = true := beq_iff_eq.2 n6
    clear k n0 n1 n2 n3 n4 n5
    go_enter Tryz.func64, Tryz.ntmps64
    go_wp2
    go_ret
    exact ⟨rfl, rfl⟩
  by_cases n7 : b.toList = [80, 105, 99, 116, 111, 103, 114, 97, 112, 104, 105, 99]
  · have k : kindN b.toList = 8 := by rw [n7]; rfl
    rw [k]
    have e0 : (b.toList == [67, 82]) = false := beq_eq_false_iff_ne.2 n0
    have e1 : (b.toList == [76, 70]) = false := beq_eq_false_iff_ne.2 n1
    have e2 : (b.toList == [67, 111, 110, 116, 114, 111, 108]) = false := beq_eq_false_iff_ne.2 n2
    have e3 : (b.toList == [69, 120, 116, 101, 110, 100]) = false := beq_eq_false_iff_ne.2 n3
    have e4 : (b.toList == [90, 87, 74]) = false := beq_eq_false_iff_ne.2 n4
    have e5 : (b.toList == [83, 112, 97, 99, 105, 110, 103, 77, 97, 114, 107]) = false := beq_eq_false_iff_ne.2 n5
    have e6 : (b.toList == [80, 114, 101, 112, 101, 110, 100]) = false := beq_eq_false_iff_ne.2 n6
    have e7 : (b.toList == [80, 105, 99, 116, 111, 103, 114, 97, 112, 104, 105, 99]) = true := beq_iff_eq.2 n7
    clear k n0 n1 n2 n3 n4 n5 n6
    go_enter Tryz.func64, Tryz.ntmps64
    go_wp2
    go_ret
    exact ⟨rfl, rfl⟩
  by_cases n8 : b.toList = [70, 108, 97, 103]
  · have k : kindN b.toList = 9 := by rw [n8]; rfl
    rw [k]
    have e0 : (b.toList == [67, 82]) = false := beq_eq_false_iff_ne.2 n0
    have e1 : (b.toList == [76, 70]) = false := beq_eq_false_iff_ne.2 n1
    have e2 : (b.toList == [67, 111, 110, 116, 114, 111, 108]) = false := beq_eq_false_iff_ne.2 n2
    have e3 : (b.toList == [69, 120, 116, 101, 110, 100]) = false := beq_eq_false_iff_ne.2 n3
    have e4 : (b.toList == [90, 87, 74]) = false := beq_eq_false_iff_ne.2 n4
    have e5 : (b.toList == [83, 112, 97, 99, 105, 110, 103, 77, 97, 114, 107]) = false := beq_eq_false_iff_ne.2 n5
    have e6 : (b.toList == [80, 114, 101, 112, 101, 110, 100]) = false := beq_eq_false_iff_ne.2 n6
    have e7 : (b.toList == [80, 105, 99, 116, 111, 103, 114, 97, 112, 104, 105, 99]) = false := beq_eq_false_iff_ne.2 n7
    have e8 : (b.toList == [70, 108, 97, 103]) = true := beq_iff_eq.2 n8
    clear k n0 n1 n2 n3 n4 n5 n6 n7
    go_enter Tryz.func64, Tryz.ntmps64
    go_wp2
    go_ret
    exact ⟨rfl, rfl⟩
  by_cases n9 : b.toList = [76]
  · have k : kindN b.toList = 10 := by rw [n9]; rfl
    rw [k]
    have e0 : (b.toList == [67, 82]) = false := beq_eq_false_iff_ne.2 n0
    have e1 : (b.toList == [76, 70]) = false := beq_eq_false_iff_ne.2 n1
    have e2 : (b.toList == [67, 111, 110, 116, 114, 111, 108]) = false := beq_eq_false_iff_ne.2 n2
    have e3 : (b.toList == [69, 120, 116, 101, 110, 100]) = false := beq_eq_false_iff_ne.2 n3
    have e4 : (b.toList == [90, 87, 74]) = false := beq_eq_false_iff_ne.2 n4
    have e5 : (b.toList == [83, 112, 97, 99, 105, 110, 103, 77, 97, 114, 107]) = false := beq_eq_false_iff_ne.2 n5
    have e6 : (b.toList == [80, 114, 101, 112, 101, 110, 100]) = false := beq_eq_false_iff_ne.2 n6
    have e7 : (b.toList == [80, 105, 99, 116, 111, 103, 114, 97, 112, 104, 105, 99]) = false := beq_eq_false_iff_ne.2 n7
    have e8 : (b.toList == [70, 108, 97, 103]) = false := beq_eq_false_iff_ne.2 n8
    have e9 : (b.toList == [76]) = true := beq_iff_eq.2 n9
    clear k n0 n1 n2 n3 n4 n5 n6 n7 n8
    go_enter Tryz.func64, Tryz.ntmps64
    go_wp2
    go_ret
    exact ⟨rfl, rfl⟩
  by_cases n10 : b.toList = [86]
  · have k : kindN b.toList = 11 := by rw [n10]; rfl
    rw [k]
    have e0 : (b.toList == [67, 82]) = false := beq_eq_false_iff_ne.2 n0
    have e1 : (b.toList == [76, 70]) = false := beq_eq_false_iff_ne.2 n1
    have e2 : (b.toList == [67, 111, 110, 116, 114, 111, 108]) = false := beq_eq_false_iff_ne.2 n2
    have e3 : (b.toList == [69, 120, 116, 101, 110, 100]) = false := beq_eq_false_iff_ne.2 n3
    have e4 : (b.toList == [90, 87, 74]) = false := beq_eq_false_iff_ne.2 n4
    have e5 : (b.toList == [83, 112, 97, 99, 105, 110, 103, 77, 97, 114, 107]) = false := beq_eq_false_iff_ne.2 n5
    have e6 : (b.toList == [80, 114, 101, 112, 101, 110, 100]) = false := beq_eq_false_iff_ne.2 n6
    have e7 : (b.toList == [80, 105, 99, 116, 111, 103, 114, 97, 112, 104, 105, 99]) = false := beq_eq_false_iff_ne.2 n7
    have e8 : (b.toList == [70, 108, 97, 103]) = false := beq_eq_false_iff_ne.2 n8
    have e9 : (b.toList == [76]) = false := beq_eq_false_iff_ne.2 n9
    have e10 : (b.toList == [86]) = true := beq_iff_eq.2 n10
    clear k n0 n1 n2 n3 n4 n5 n6 n7 n8 n9
    go_enter Tryz.func64, Tryz.ntmps64
    go_wp2
    go_ret
    exact ⟨rfl, rfl⟩
  by_cases n11 : b.toList = [84]
  · have k : kindN b.toList = 12 := by rw [n11]; rfl
    rw [k]
    have e0 : (b.toList == [67, 82]) = false := beq_eq_false_iff_ne.2 n0
    have e1 : (b.toList == [76, 70]) = false := beq_eq_false_iff_ne.2 n1
    have e2 : (b.toList == [67, 111, 110, 116, 114, 111, 108]) = false := beq_eq_false_iff_ne.2 n2
    have e3 : (b.toList == [69, 120, 116, 101, 110, 100]) = false := beq_eq_false_iff_ne.2 n3
    have e4 : (b.toList == [90, 87, 74]) = false := beq_eq_false_iff_ne.2 n4
    have e5 : (b.toList == [83, 112, 97, 99, 105, 110, 103, 77, 97, 114, 107]) = false := beq_eq_false_iff_ne.2 n5
    have e6 : (b.toList == [80, 114, 101, 112, 101, 110, 100]) = false := beq_eq_false_iff_ne.2 n6
    have e7 : (b.toList == [80, 105, 99, 116, 111, 103, 114, 97, 112, 104, 105, 99]) = false := beq_eq_false_iff_ne.2 n7
    have e8 : (b.toList == [70, 108, 97, 103]) = false := beq_eq_false_iff_ne.2 n8
    have e9 : (b.toList == [76]) = false := beq_eq_false_iff_ne.2 n9
    have e10 : (b.toList == [86]) = false := beq_eq_false_iff_ne.2 n10
    have e11 : (b.toList == [84]) = true := beq_iff_eq.2 n11
    clear k n0 n1 n2 n3 n4 n5 n6 n7 n8 n9 n10
    go_enter Tryz.func64, Tryz.ntmps64
    go_wp2
    go_ret
    exact ⟨rfl, rfl⟩
  by_cases n12 : b.toList = [76, 86]
  · have k : kindN b.toList = 13 := by rw [n12]; rfl
    rw [k]
    have e0 : (b.toList == [67, 82]) = false := beq_eq_false_iff_ne.2 n0
    have e1 : (b.toList == [76, 70]) = false := beq_eq_false_iff_ne.2 n1
    have e2 : (b.toList == [67, 111, 110, 116, 114, 111, 108]) = false := beq_eq_false_iff_ne.2 n2
    have e3 : (b.toList == [69, 120, 116, 101, 110, 100]) = false := beq_eq_false_iff_ne.2 n3
    have e4 : (b.toList == [90, 87, 74]) = false := beq_eq_false_iff_ne.2 n4
    have e5 : (b.toList == [83, 112, 97, 99, 105, 110, 103, 77, 97, 114, 107]) = false := beq_eq_false_iff_ne.2 n5
    have e6 : (b.toList == [80, 114, 101, 112, 101, 110, 100]) = false := beq_eq_false_iff_ne.2 n6
    have e7 : (b.toList == [80, 105, 99, 116, 111, 103, 114, 97, 112, 104, 105, 99]) = false := beq_eq_false_iff_ne.2 n7
    have e8 : (b.toList == [70, 108, 97, 103]) = false := beq_eq_false_iff_ne.2 n8
    have e9 : (b.toList == [76]) = false := beq_eq_false_iff_ne.2 n9
    have e10 : (b.toList == [86]) = false := beq_eq_false_iff_ne.2 n10
    have e11 : (b.toList == [84]) = false := beq_eq_false_iff_ne.2 n11
    have e12 : (b.toList == [76, 86]) = true := beq_iff_eq.2 n12
    clear k n0 n1 n2 n3 n4 n5 n6 n7 n8 n9 n10 n11
    go_enter Tryz.func64, Tryz.ntmps64
    go_wp2
    go_ret
    exact ⟨rfl, rfl⟩
  by_cases n13 : b.toList = [76, 86, 84]
  · have k : kindN b.toList = 14 := by rw [n13]; rfl
    rw [k]
    have e0 : (b.toList == [67, 82]) = false := beq_eq_false_iff_ne.2 n0
    have e1 : (b.toList == [76, 70]) = false := beq_eq_false_iff_ne.2 n1
    have e2 : (b.toList == [67, 111, 110, 116, 114, 111, 108]) = false := beq_eq_false_iff_ne.2 n2
    have e3 : (b.toList == [69, 120, 116, 101, 110, 100]) = false := beq_eq_false_iff_ne.2 n3
    have e4 : (b.toList == [90, 87, 74]) = false := beq_eq_false_iff_ne.2 n4
    have e5 : (b.toList == [83, 112, 97, 99, 105, 110, 103, 77, 97, 114, 107]) = false := beq_eq_false_iff_ne.2 n5
    have e6 : (b.toList == [80, 114, 101, 112, 101, 110, 100]) = false := beq_eq_false_iff_ne.2 n6
    have e7 : (b.toList == [80, 105, 99, 116, 111, 103, 114, 97, 112, 104, 105, 99]) = false := beq_eq_false_iff_ne.2 n7
    have e8 : (b.toList == [70, 108, 97, 103]) = false := beq_eq_false_iff_ne.2 n8
    have e9 : (b.toList == [76]) = false := beq_eq_false_iff_ne.2 n9
    have e10 : (b.toList == [86]) = false := beq_eq_false_iff_ne.2 n10
    have e11 : (b.toList == [84]) = false := beq_eq_false_iff_ne.2 n11
    have e12 : (b.toList == [76, 86]) = false := beq_eq_false_iff_ne.2 n12
    have e13 : (b.toList == [76, 86, 84]) = true := beq_iff_eq.2 n13
    clear k n0 n1 n2 n3 n4 n5 n6 n7 n8 n9 n10 n11 n12
    go_enter Tryz.func64, Tryz.ntmps64
    go_wp2
    go_ret
    exact ⟨rfl, rfl⟩
  have k : kindN b.toList = 0 := kindN_other (by
    unfold kindNames
    simp only [List.mem_cons, List.not_mem_nil, or_false, not_or]
    exact ⟨n0, n1, n2, n3, n4, n5, n6, n7, n8, n9, n10, n11, n12, n13⟩)
  rw [k]
  have e0 : (b.toList == [67, 82]) = false := beq_eq_false_iff_ne.2 n0
  have e1 : (b.toList == [76, 70]) = false := beq_eq_false_iff_ne.2 n1
  have e2 : (b.toList == [67, 111, 110, 116, 114, 111, 108]) = false := beq_eq_false_iff_ne.2 n2
  have e3 : (b.toList == [69, 120, 116, 101, 110, 100]) = false := beq_eq_false_iff_ne.2 n3
  have e4 : (b.toList == [90, 87, 74]) = false := beq_eq_false_iff_ne.2 n4
  have e5 : (b.toList == [83, 112, 97, 99, 105, 110, 103, 77, 97, 114, 107]) = false := beq_eq_false_iff_ne.2 n5
  have e6 : (b.toList == [80, 114, 101, 112, 101, 110, 100]) = false := beq_eq_false_iff_ne.2 n6
  have e7 : (b.toList == [80, 105, 99, 116, 111, 103, 114, 97, 112, 104, 105, 99]) = false := beq_eq_false_iff_ne.2 n7
  have e8 : (b.toList == [70, 108, 97, 103]) = false := beq_eq_false_iff_ne.2 n8
  have e9 : (b.toList == [76]) = false := beq_eq_false_iff_ne.2 n9
  have e10 : (b.toList == [86]) = false := beq_eq_false_iff_ne.2 n10
  have e11 : (b.toList == [84]) = false := beq_eq_false_iff_ne.2 n11
  have e12 : (b.toList == [76, 86]) = false := beq_eq_false_iff_ne.2 n12
  have e13 : (b.toList == [76, 86, 84]) = false := beq_eq_false_iff_ne.2 n13
  clear k
  go_enter Tryz.func64, Tryz.ntmps64
  go_wp2
  go_ret
  exact ⟨rfl, rfl⟩
def gluedB (a b : Nat) : Bool := [(1, 2), (10, 10), (10, 11), (10, 13), (10, 14), (13, 11), (13, 12), (11, 11), (11, 12), (14, 12), (12, 12)].contains (a, b)
set_option maxRecDepth 100000 in
set_option maxHeartbeats 800000 in
theorem glued_walk (a b : Nat) (ha : a ≤ 14) (hb : b ≤ 14) (w : World) : Calls Tryz.prog 66 #[.agg #[.int .i64 a, .int .i64 b]] w fun e w' => e = .returned (.bool (gluedB a b)) ∧ Below w.heap.size w w' := by
  go_enter Tryz.func66, Tryz.ntmps66
  go_wp2
  all_goals
    go_ret
    refine ⟨?_, alloc_below _ _⟩
    simp [gluedB]
    omega
end Go.Proofs.YtkgomgfhfoomhaaGreatDoor
namespace Go.Proofs.YtkgomgfhfoomhaaGreatDoor
open Go.RowKit
set_option linter.unusedVariables false
set_option linter.unusedSimpArgs false

/-- A slice of ints, wherever it lies. -/
def ListAt (w : World) (v : Value) (zs : List Int) : Prop := ∃ A c, v = .slice A zs.length c ∧ zs.length ≤ 9223372036854775807 ∧ (0 < zs.length → ∃ ad, A = some ad ∧ ∀ j u, (intz zs)[j]? = some u → w.cell? (ad.add j) = some u)
theorem ListAt.below {w w' : World} {v : Value} {zs : List Int} (h : ListAt w v zs) (hb : Below w.heap.size w w') : ListAt w' v zs := by
  obtain ⟨A, c, h1, h2, h3⟩ := h
  exact ⟨A, c, h1, h2, fun hp => by
    obtain ⟨ad, h4, h5⟩ := h3 hp
    exact ⟨ad, h4, fun j u hu => cell_later hb (h5 j u hu)⟩⟩
theorem ListAt.of_own {w : World} {B : Nat} {v : Value} {zs : List Int} (h : IntsAt w B v zs) : ListAt w v zs := by
  have hl := own_len h
  unfold maxLen at hl
  obtain ⟨A, c, rfl⟩ := own_slice h
  refine ⟨A, c, rfl, by omega, fun hp => ?_⟩
  obtain ⟨g, k, e, _⟩ := own_form h hp
  injection e with e1
  exact ⟨⟨g, 0, none⟩, e1, fun j u hu => by rw [add_plain, Nat.zero_add]; subst e1; exact own_cell h j u hu⟩
def ofK (Φ : Files) (zs : List Int) (i : Int) : Nat := if i < 0 then 0 else kindN (cluOf Φ (zs.getD i.toNat 0))
theorem ofK_le (Φ : Files) (zs : List Int) (i : Int) : ofK Φ zs i ≤ 14 := by
  unfold ofK
  split
  · omega
  · exact kindN_le _
theorem r_loadPtr (ρ : Operand → Value) (W : World) (o : Oper) (x : Operand) (ho : o.op = .load 23 x) (ad : Addr) (hx : ρ x = .pointer (some ad)) (p : Option Addr) (hc : W.cell? ad = some (.pointer p)) : (execOp ρ o).run Tryz.prog W = .ok (.value (.pointer p)) W := by
  unfold execOp
  rw [ho]
  go_simp
theorem r_loadInts (ρ : Operand → Value) (W : World) (o : Oper) (x : Operand) (ho : o.op = .load 22 x) (ad : Addr) (hx : ρ x = .pointer (some ad)) (A : Option Addr) (n c : Nat) (hc : W.cell? ad = some (.slice A n c)) : (execOp ρ o).run Tryz.prog W = .ok (.value (.slice A n c)) W := by
  unfold execOp
  rw [ho]
  go_simp
theorem r_indexInt (ρ : Operand → Value) (W : World) (o : Oper) (x y : Operand) (ho : o.op = .indexAddr 22 x y) (ad : Addr) (n c : Nat) (i : Nat) (hx : ρ x = .slice (some ad) n c) (hy : ρ y = .int .i64 i) (hk : i < n) (hn : n ≤ 9223372036854775807) : (execOp ρ o).run Tryz.prog W = .ok (.value (.pointer (some (ad.add i)))) W := by
  unfold execOp
  rw [ho]
  go_simp
theorem r_loadInt (ρ : Operand → Value) (W : World) (o : Oper) (x : Operand) (ho : o.op = .load 3 x) (ad : Addr) (hx : ρ x = .pointer (some ad)) (i : Int) (hc : W.cell? ad = some (.int .i64 i)) : (execOp ρ o).run Tryz.prog W = .ok (.value (.int .i64 i)) W := by
  unfold execOp
  rw [ho]
  go_simp
abbrev dsE : List (Option Tmp) := [some 7, some 8, some 9, some 10, some 11, some 12, some 13, some 4]
abbrev needsE : List (Nat × Nat) := [(3, 1), (3, 2), (4, 3), (5, 0), (5, 4), (6, 5), (7, 6)]
abbrev opsE : List Op := [.load 23 (.tmp 1), .load 22 (.tmp 2), .move (.tmp 0), .indexAddr 22 (.tmp 8) (.tmp 9), .load 3 (.tmp 10), .call { callee := .value (.func 65), args := #[.tmp 7, .tmp 11], argTypes := #[23, 3] },
  .call { callee := .value (.func 64), args := #[.tmp 12], argTypes := #[9] }, .assign (.tmp 13)]
set_option maxHeartbeats 800000 in
theorem of_region (a : Act) (ops : Array Oper) (rid : Nat) (Q : Exit → Act → World → Prop) (w : World) (m b3 b4 i : Nat) (Φ : Files) (zs : List Int) (ad : Addr) (c : Nat)
    (hops : ops.toList.map (·.op) = opsE) (hok : dagOk ops dsE = true) (hnd : needsOk2 ops needsE = true) (hsz : 14 ≤ a.tmps.size)
    (h0 : a.tmps.getD 0 undef = .int .i64 i) (h1 : a.tmps.getD 1 undef = .pointer (some ⟨b3, 0, none⟩)) (h2 : a.tmps.getD 2 undef = .pointer (some ⟨b4, 0, none⟩))
    (ht : TabAt w m Φ) (hfo : FilesOk Φ) (c3 : w.cell? ⟨b3, 0, none⟩ = some (.pointer (some ⟨m + 3, 0, none⟩))) (c4 : w.cell? ⟨b4, 0, none⟩ = some (.slice (some ad) zs.length c)) (hi : i < zs.length) (hn : zs.length ≤ 9223372036854775807)
    (hz : ∀ j u, (intz zs)[j]? = some u → w.cell? (ad.add j) = some u)
    (hend : ∀ V W, V 7 = .int .i64 (ofK Φ zs i) → Below w.heap.size w W → Q .normal { a with tmps := frS (fun j => decide (j < 8)) V 0 dsE a.tmps } W) :
    (Code.region rid ops true).wp Tryz.prog Q a w := by
  have hlen : ops.size = 8 := by have := congrArg List.length hops; simpa using this
  have hop : ∀ (i : Nat) (o : Oper), ops[i]? = some o → ∀ x, opsE[i]? = some x → o.op = x := by
    intro i o ho x hx
    rw [← hops, List.getElem?_map, Array.getElem?_toList, ho] at hx
    simpa using hx
  have hlt : ∀ t, t < 14 → t < a.tmps.size := fun t ht => by omega
  have hzi : w.cell? (ad.add i) = some (.int .i64 (zs.getD i 0)) := hz i _ (intz_get zs i hi)
  have hkn : kindN (cluOf Φ (zs.getD i 0)) = ofK Φ zs i := by
    unfold ofK
    rw [if_neg (by omega)]
    rfl
  rw [← hlen] at hend
  refine wp_region_inv (by kernel_rfl) dsE hok
    (fun j => match j with | 0 => .pointer (some ⟨m + 3, 0, none⟩) | 1 => .slice (some ad) zs.length c | 2 => .int .i64 i | 3 => .pointer (some (ad.add i)) | 4 => .int .i64 (zs.getD i 0) | 5 => .string ⟨(cluOf Φ (zs.getD i 0)).toArray⟩ | 6 => .int .i64 (ofK Φ zs i) | 7 => .int .i64 (ofK Φ zs i) | _ => undef)
    (fun W => Below w.heap.size w W) ⟨rfl, rfl, rfl, Nat.le_refl _, fun _ _ => rfl⟩ ?_ (fun W hb => hend _ W rfl hb)
  intro k o ho ρ hρ hold hcon hfun _ W hb
  have hk : k < 8 := by rw [← hlen]; exact (Array.getElem?_eq_some_iff.1 ho).1
  have e0 : ρ (.tmp 0) = .int .i64 i := (hold 0 (by decide)).trans h0
  have e1 : ρ (.tmp 1) = .pointer (some ⟨b3, 0, none⟩) := (hold 1 (by decide)).trans h1
  have e2 : ρ (.tmp 2) = .pointer (some ⟨b4, 0, none⟩) := (hold 2 (by decide)).trans h2
  match k, hk with
  | 0, _ => exact .inl ⟨W, hb, .inl (r_loadPtr _ _ o _ (hop _ _ ho _ rfl) _ e1 _ (cell_later hb c3))⟩
  | 1, _ => exact .inl ⟨W, hb, .inl (r_loadInts _ _ o _ (hop _ _ ho _ rfl) _ e2 _ _ _ (cell_later hb c4))⟩
  | 2, _ => exact .inl ⟨W, hb, .inl (by have := r_move Tryz.prog ρ W o _ (hop _ _ ho _ rfl); rw [e0] at this; exact this)⟩
  | 3, _ => exact .inl ⟨W, hb, .inl (r_indexInt _ _ o _ _ (hop _ _ ho _ rfl) ad _ _ i (hρ 1 (needs2_get hnd 3 1 (by decide)) 8 rfl (hlt _ (by decide))) (hρ 2 (needs2_get hnd 3 2 (by decide)) 9 rfl (hlt _ (by decide))) hi hn)⟩
  | 4, _ => exact .inl ⟨W, hb, .inl (r_loadInt _ _ o _ (hop _ _ ho _ rfl) _ (hρ 3 (needs2_get hnd 4 3 (by decide)) 10 rfl (hlt _ (by decide))) _ (cell_later hb hzi))⟩
  | 5, _ =>
    refine .inr ⟨65, #[.pointer (some ⟨m + 3, 0, none⟩), .int .i64 (zs.getD i 0)], ?_, ?_⟩
    · have q1 := hρ 0 (needs2_get hnd 5 0 (by decide)) 7 rfl (hlt _ (by decide))
      have q2 := hρ 4 (needs2_get hnd 5 4 (by decide)) 11 rfl (hlt _ (by decide))
      unfold execOp
      rw [hop _ _ ho _ rfl]
      simp [go_sem, hfun, q1, q2, resolve, Act.eval]
    · refine (cluster_walk (ht.below hb) hfo _).mono ?_
      rintro e W' ⟨rfl, hb'⟩
      exact ⟨rfl, hb.trans (hb'.mono hb.size)⟩
  | 6, _ =>
    refine .inr ⟨64, #[.string ⟨(cluOf Φ (zs.getD i 0)).toArray⟩], ?_, ?_⟩
    · have q1 := hρ 5 (needs2_get hnd 6 5 (by decide)) 12 rfl (hlt _ (by decide))
      unfold execOp
      rw [hop _ _ ho _ rfl]
      simp [go_sem, hfun, q1, resolve, Act.eval]
    · refine (kind_walk _ W).mono ?_
      rintro e W' ⟨rfl, rfl⟩
      refine ⟨?_, hb⟩
      show _ = Ending.returned (.int .i64 (ofK Φ zs i))
      rw [show (⟨(cluOf Φ (zs.getD i 0)).toArray⟩ : ByteArray).toList = cluOf Φ (zs.getD i 0) from toBl _, hkn]
  | 7, _ =>
    have q1 := hρ 6 (needs2_get hnd 7 6 (by decide)) 13 rfl (hlt _ (by decide))
    exact .inl ⟨W, hb, .inl (by have := r_assign Tryz.prog ρ W o _ (hop _ _ ho _ rfl); rw [q1] at this; exact this)⟩
set_option maxRecDepth 100000 in
theorem of_walk {w : World} {m b3 b4 : Nat} {Φ : Files} {zs : List Int} {v : Value} (ht : TabAt w m Φ) (hfo : FilesOk Φ) (hl : ListAt w v zs) (c3 : w.cell? ⟨b3, 0, none⟩ = some (.pointer (some ⟨m + 3, 0, none⟩))) (c4 : w.cell? ⟨b4, 0, none⟩ = some v) (i : Int) (hi : i < zs.length) :
    Calls Tryz.prog 63 #[.int .i64 i, .pointer (some ⟨b3, 0, none⟩), .pointer (some ⟨b4, 0, none⟩)] w fun e w' => e = .returned (.int .i64 (ofK Φ zs i)) ∧ Below w.heap.size w w' := by
  by_cases hneg : i < 0
  · have e : ofK Φ zs i = 0 := by unfold ofK; rw [if_pos hneg]
    rw [e]
    have d1 : decide (i < 0) = true := by simpa using hneg
    clear hneg e
    go_enter Tryz.func63, Tryz.ntmps63
    go_wp2_with fail
    go_ret
    exact ⟨rfl, Below.refl _ _⟩
  · obtain ⟨q, rfl⟩ := Int.eq_ofNat_of_zero_le (show 0 ≤ i by omega)
    obtain ⟨A, c, rfl, hn, hz0⟩ := hl
    obtain ⟨ad, rfl, hz⟩ := hz0 (by omega)
    have d1 : decide ((q : Int) < 0) = false := by simp
    have HT := Lib.hid ht
    have Hz := Lib.hid hz
    have Hq := Lib.hid (show q < zs.length by omega)
    clear ht hz hz0 hneg hi
    go_enter Tryz.func63, Tryz.ntmps63
    go_wp2_with fail
    refine of_region _ _ _ _ w m b3 b4 q Φ zs ad c rfl (by kernel_rfl) (by kernel_rfl) (by simp) rfl rfl rfl HT.out hfo c3 c4 Hq.out hn Hz.out ?_
    intro V W hV hb
    simp [frS, stepS, Exit.then]
    rw [hV]
    have HB := Lib.hid hb
    clear hb
    go_wp2_with fail
    go_ret
    exact ⟨rfl, HB.out⟩
end Go.Proofs.YtkgomgfhfoomhaaGreatDoor
namespace Go.Proofs.YtkgomgfhfoomhaaGreatDoor
open Go.RowKit
set_option linter.unusedVariables false
set_option linter.unusedSimpArgs false

/-! ### what it tells -/
def skipsTo (K : Int → Nat) : Nat → Int → Int
  | 0, i => i
  | n + 1, i => if K i = 4 then skipsTo K n (i - 1) else i
def skipsAt (K : Int → Nat) (i : Int) : Int := skipsTo K (i + 1).toNat i
theorem skipsAt_more {K : Int → Nat} {i : Int} (h : K i = 4) (hi : 0 ≤ i) : skipsAt K i = skipsAt K (i - 1) := by
  unfold skipsAt
  obtain ⟨n, rfl⟩ := Int.eq_ofNat_of_zero_le hi
  rw [show ((n : Int) + 1).toNat = n + 1 by omega, show ((n : Int) - 1 + 1).toNat = n by omega, skipsTo, if_pos h]
theorem skipsAt_end {K : Int → Nat} {i : Int} (h : K i ≠ 4) : skipsAt K i = i := by
  unfold skipsAt
  cases (i + 1).toNat with
  | zero => rfl
  | succ n => rw [skipsTo, if_neg h]
def flagsTo (K : Int → Nat) : Nat → Int → Nat
  | 0, _ => 0
  | f + 1, j => if K j = 9 then 1 + flagsTo K f (j - 1) else 0
def flagsAt (K : Int → Nat) (j : Int) : Nat := flagsTo K (j + 1).toNat j
theorem flagsAt_more {K : Int → Nat} {i : Int} (h : K i = 9) (hi : 0 ≤ i) : flagsAt K i = 1 + flagsAt K (i - 1) := by
  unfold flagsAt
  obtain ⟨n, rfl⟩ := Int.eq_ofNat_of_zero_le hi
  rw [show ((n : Int) + 1).toNat = n + 1 by omega, show ((n : Int) - 1 + 1).toNat = n by omega, flagsTo, if_pos h]
theorem flagsAt_end {K : Int → Nat} {i : Int} (h : K i ≠ 9) : flagsAt K i = 0 := by
  unfold flagsAt
  cases (i + 1).toNat with
  | zero => rfl
  | succ n => rw [flagsTo, if_neg h]
def edgeMid (a b : Nat) (x y : Bool) : Bool :=
  if gluedB a b then false else if (1 ≤ a ∧ a ≤ 3) ∨ (1 ≤ b ∧ b ≤ 3) then true else if b = 4 ∨ b = 5 ∨ b = 6 ∨ a = 7 then false else if a = 5 ∧ b = 8 then x else if a = 9 ∧ b = 9 then y else true
def edgeOf (Φ : Files) (zs : List Int) (p : Int) : Bool :=
  if zs.length = 0 ∨ p < 0 ∨ (zs.length : Int) < p then false else if p = 0 ∨ p = zs.length then true
  else edgeMid (ofK Φ zs (p - 1)) (ofK Φ zs p) (ofK Φ zs (skipsAt (ofK Φ zs) (p - 2)) != 8) (flagsAt (ofK Φ zs) (p - 1) % 2 == 0)

/-! ### the walk -/
structure EdgeSt (w : World) (m b3 b4 : Nat) (Φ : Files) (zs : List Int) (v : Value) : Prop where
  tab : TabAt w m Φ
  list : ListAt w v zs
  c3 : w.cell? ⟨b3, 0, none⟩ = some (.pointer (some ⟨m + 3, 0, none⟩))
  c4 : w.cell? ⟨b4, 0, none⟩ = some v
theorem EdgeSt.below {w w' : World} {m b3 b4 : Nat} {Φ : Files} {zs : List Int} {v : Value} (h : EdgeSt w m b3 b4 Φ zs v) (hb : Below w.heap.size w w') : EdgeSt w' m b3 b4 Φ zs v := ⟨h.tab.below hb, h.list.below hb, cell_later hb h.c3, cell_later hb h.c4⟩
theorem EdgeSt.of {w : World} {m b3 b4 : Nat} {Φ : Files} {zs : List Int} {v : Value} (h : EdgeSt w m b3 b4 Φ zs v) (hfo : FilesOk Φ) (i : Int) (hi : i < zs.length) :
    Calls Tryz.prog 63 #[.int .i64 i, .pointer (some ⟨b3, 0, none⟩), .pointer (some ⟨b4, 0, none⟩)] w fun e w' => e = .returned (.int .i64 (ofK Φ zs i)) ∧ Below w.heap.size w w' := of_walk h.tab hfo h.list h.c3 h.c4 i hi
set_option maxRecDepth 100000 in
set_option maxHeartbeats 1600000 in
theorem edge_walk {w : World} {m : Nat} {Φ : Files} {zs : List Int} {v : Value} (ht : TabAt w m Φ) (hfo : FilesOk Φ) (hcat : txOf Φ.cat 0 [67, 110] ≠ []) (hl : ListAt w v zs) (p : Int) (hp : (Lit.int .i64 p).wf = true) :
    Calls Tryz.prog 28 #[.pointer (some ⟨m + 3, 0, none⟩), v, .int .i64 p] w fun e w' => e = .returned (.bool (edgeOf Φ zs p)) ∧ Below w.heap.size w w' := by
  obtain ⟨A, c, rfl, hn, hz⟩ := hl
  obtain ⟨W0, hW0⟩ : ∃ W0, W0 = (w.alloc (.cells #[.pointer (some ⟨m + 3, 0, none⟩)] 23)).alloc (.cells #[.slice A zs.length c] 22) := ⟨_, rfl⟩
  have hb1 := alloc_below w (.cells #[.pointer (some ⟨m + 3, 0, none⟩)] 23)
  have hb2 := alloc_below (w.alloc (.cells #[.pointer (some ⟨m + 3, 0, none⟩)] 23)) (.cells #[.slice A zs.length c] 22)
  have hb0 : Below w.heap.size w W0 := by rw [hW0]; exact hb1.trans (hb2.mono hb1.size)
  have hS : EdgeSt W0 m w.heap.size (w.heap.size + 1) Φ zs (.slice A zs.length c) := by
    refine ⟨ht.below hb0, ListAt.below ⟨A, c, rfl, hn, hz⟩ hb0, ?_, ?_⟩
    · rw [hW0]
      exact cell_later hb2 ((cells_of_row (row_new w _)).1 0)
    · rw [hW0]
      have := (cells_of_row (row_new (w.alloc (.cells #[.pointer (some ⟨m + 3, 0, none⟩)] 23)) (.cells #[.slice A zs.length c] 22))).1 0
      rw [size_new] at this
      exact this
  have hcw := category_walk hS.tab hfo 0
  have hcs : (⟨(txOf Φ.cat 0 [67, 110]).toArray⟩ : ByteArray).toList.isEmpty = false := by
    rw [show (⟨(txOf Φ.cat 0 [67, 110]).toArray⟩ : ByteArray).toList = txOf Φ.cat 0 [67, 110] from toBl _]
    exact List.isEmpty_eq_false_iff.2 hcat
  generalize (⟨(txOf Φ.cat 0 [67, 110]).toArray⟩ : ByteArray) = cs at *
  have HCW := Lib.hid hcw
  have HS := Lib.hid hS
  have HB0 := Lib.hid hb0
  have s3 := hS.c3
  have s4 := hS.c4
  have hsz := Lib.hid (show W0.heap.size = w.heap.size + 2 by rw [hW0, size_new, size_new])
  clear hcw hS hb0 hb1 hb2 ht hz hcat
  go_enter Tryz.func28, Tryz.ntmps28
  go_wp2_with fail
  rw [← hW0]
  clear hW0 s3 s4
  refine HCW.out.mono ?_
  rintro e w1 ⟨rfl, hb1⟩
  have HS1 := Lib.hid (HS.out.below hb1)
  have HB1 := Lib.hid (HB0.out.trans (hb1.mono HB0.out.size))
  have s3 := HS1.out.c3
  have s4 := HS1.out.c4
  clear hb1 HS HCW HB0 hsz
  by_cases hend : zs.length = 0 ∨ p < 0 ∨ (zs.length : Int) < p
  · have he : edgeOf Φ zs p = false := by unfold edgeOf; rw [if_pos hend]
    have He := Lib.hid he
    clear he
    go_wp2_with fail
    all_goals
      first
        | (go_ret; refine ⟨?_, HB1.out⟩; rw [He.out]; rfl)
        | (exfalso; (try simp only [beq_eq_false_iff_ne, beq_iff_eq, ne_eq, decide_eq_false_iff_not, decide_eq_true_eq] at *); omega)
  · by_cases hedge : p = 0 ∨ p = zs.length
    · have he : edgeOf Φ zs p = true := by unfold edgeOf; rw [if_neg hend, if_pos hedge]
      have He := Lib.hid he
      have g1 : ((zs.length : Int) == 0) = false := by rw [beq_eq_false_iff_ne]; omega
      have g2 : decide (p < 0) = false := by simp; omega
      have g3 : decide (p > (zs.length : Int)) = false := by simp; omega
      clear he hend
      go_wp2_with fail
      all_goals
        first
          | (go_ret; refine ⟨?_, HB1.out⟩; rw [He.out]; rfl)
          | (exfalso; (try simp only [beq_eq_false_iff_ne, beq_iff_eq, ne_eq, decide_eq_false_iff_not, decide_eq_true_eq] at *); omega)
    · have he : edgeOf Φ zs p = edgeMid (ofK Φ zs (p - 1)) (ofK Φ zs p) (ofK Φ zs (skipsAt (ofK Φ zs) (p - 2)) != 8) (flagsAt (ofK Φ zs) (p - 1) % 2 == 0) := by unfold edgeOf; rw [if_neg hend, if_neg hedge]
      have g1 : ((zs.length : Int) == 0) = false := by rw [beq_eq_false_iff_ne]; omega
      have g2 : decide (p < 0) = false := by simp; omega
      have g3 : decide (p > (zs.length : Int)) = false := by simp; omega
      have g4 : (p == 0) = false := by rw [beq_eq_false_iff_ne]; omega
      have g5 : (p == (zs.length : Int)) = false := by rw [beq_eq_false_iff_ne]; omega
      have hp1 : 1 ≤ p ∧ p < zs.length := by omega
      have a1 : IntKind.i64.wrap (p - 1) = p - 1 := by rw [IntKind.wrap_i64]; omega
      have a2 : wrap64 (p - 1) = p - 1 := by unfold wrap64; omega
      have He := Lib.hid he
      clear hend hedge he
      go_wp2_with fail
      refine (HS1.out.of hfo (p - 1) (by omega)).mono ?_
      rintro e w2 ⟨rfl, hb2⟩
      have HS2 := Lib.hid (HS1.out.below hb2)
      have HB2 := Lib.hid (HB1.out.trans (hb2.mono HB1.out.size))
      obtain ⟨a, ha⟩ : ∃ a, a = ofK Φ zs (p - 1) := ⟨_, rfl⟩
      have hal : a ≤ 14 := by rw [ha]; exact ofK_le _ _ _
      rw [← ha]
      have Ha := Lib.hid ha
      clear hb2 HS1 HB1 s3 s4 ha
      go_wp2_with fail
      refine (HS2.out.of hfo p (by omega)).mono ?_
      rintro e w3 ⟨rfl, hb3⟩
      have HS3 := Lib.hid (HS2.out.below hb3)
      have HB3 := Lib.hid (HB2.out.trans (hb3.mono HB2.out.size))
      obtain ⟨b, hb⟩ : ∃ b, b = ofK Φ zs p := ⟨_, rfl⟩
      have hbl : b ≤ 14 := by rw [hb]; exact ofK_le _ _ _
      rw [← hb]
      have Hb := Lib.hid hb
      clear hb3 HS2 HB2 hb
      go_wp2_with fail
      have hbw := alloc_below w3 (Obj.cells #[Value.int IntKind.i64 a, Value.int IntKind.i64 b] 85)
      refine (glued_walk a b hal hbl _).mono ?_
      rintro e w5 ⟨rfl, hb5⟩
      have HS5 := Lib.hid ((HS3.out.below hbw).below hb5)
      have HB5 := Lib.hid ((HB3.out.trans (hbw.mono HB3.out.size)).trans (hb5.mono (Nat.le_trans HB3.out.size hbw.size)))
      have q0 : w5.cell? ⟨w3.heap.size, 0, none⟩ = some (.int .i64 a) := cell_later hb5 ((cells_of_row (row_new w3 _)).1 0)
      have q1 : w5.cell? ⟨w3.heap.size, 1, none⟩ = some (.int .i64 b) := cell_later hb5 ((cells_of_row (row_new w3 _)).1 1)
      clear hb5 hbw HS3 HB3
      cases hg : gluedB a b with
      | true =>
        have hm : edgeOf Φ zs p = false := by rw [He.out, ← Ha.out, ← Hb.out]; unfold edgeMid; rw [hg]; rfl
        have Hm := Lib.hid hm
        clear hm hg
        go_wp2_with fail
        go_ret
        refine ⟨?_, HB5.out⟩
        rw [Hm.out]
        rfl
      | false =>
        have hm : ∀ x y, edgeMid a b x y = if (1 ≤ a ∧ a ≤ 3) ∨ (1 ≤ b ∧ b ≤ 3) then true else if b = 4 ∨ b = 5 ∨ b = 6 ∨ a = 7 then false else if a = 5 ∧ b = 8 then x else if a = 9 ∧ b = 9 then y else true := by intro x y; unfold edgeMid; rw [hg]; rfl
        have Hm := Lib.hid hm
        clear hg
        by_cases hA : (1 ≤ a ∧ a ≤ 3) ∨ (1 ≤ b ∧ b ≤ 3)
        · have hr : edgeOf Φ zs p = true := by rw [He.out, ← Ha.out, ← Hb.out, hm, if_pos hA]
          have Hr := Lib.hid hr
          clear hm hr Hm
          go_wp2_with fail
          all_goals
            first
              | (go_ret; refine ⟨?_, HB5.out⟩; rw [Hr.out]; rfl)
              | (exfalso; (try simp only [beq_eq_false_iff_ne, beq_iff_eq, ne_eq, decide_eq_false_iff_not, decide_eq_true_eq] at *); omega)
        · by_cases hBc : b = 4 ∨ b = 5 ∨ b = 6 ∨ a = 7
          · have hr : edgeOf Φ zs p = false := by rw [He.out, ← Ha.out, ← Hb.out, hm, if_neg hA, if_pos hBc]
            have Hr := Lib.hid hr
            clear hm hr Hm
            go_wp2_with fail
            all_goals
              first
                | (go_ret; refine ⟨?_, HB5.out⟩; rw [Hr.out]; rfl)
                | (exfalso; (try simp only [beq_eq_false_iff_ne, beq_iff_eq, ne_eq, decide_eq_false_iff_not, decide_eq_true_eq] at *); omega)
          · by_cases hC : a = 5 ∧ b = 8
            · have hr : edgeOf Φ zs p = (ofK Φ zs (skipsAt (ofK Φ zs) (p - 2)) != 8) := by rw [He.out, ← Ha.out, ← Hb.out, hm, if_neg hA, if_neg hBc, if_pos hC]
              have Hr := Lib.hid hr
              obtain ⟨rfl, rfl⟩ := hC
              clear hm hr Hm hA hBc
              have b2 : IntKind.i64.wrap (p - 2) = p - 2 := by rw [IntKind.wrap_i64]; omega
              go_wp2_with fail
              go_loopw [9] (fun x wr => ∃ q : Int, -1 ≤ q ∧ q ≤ p - 2 ∧ x = .int .i64 q ∧ skipsAt (ofK Φ zs) (p - 2) = skipsAt (ofK Φ zs) q ∧ Hid (Below w5.heap.size w5 wr)) (fun x _ => (intOf x + 1).toNat)
              case atStart => exact ⟨p - 2, by omega, by omega, rfl, rfl, Below.refl _ _⟩
              case round =>
                obtain ⟨q, hq1, hq2, rfl, hsk, HB⟩ := hrel
                have HSr := Lib.hid (HS5.out.below HB.out)
                have Hsk := Lib.hid hsk
                clear hsk
                go_wp2_with fail
                refine (HSr.out.of hfo q (by omega)).mono ?_
                rintro e w6 ⟨rfl, hb6⟩
                have HB6 := Lib.hid (HB.out.trans (hb6.mono HB.out.size))
                have HS6 := Lib.hid (HSr.out.below hb6)
                obtain ⟨k, hk⟩ : ∃ k, k = ofK Φ zs q := ⟨_, rfl⟩
                rw [← hk]
                have Hk := Lib.hid hk
                have hq0 : q < 0 → k = 0 := fun h => by rw [hk]; unfold ofK; rw [if_pos h]
                clear hb6 HSr HB hk
                by_cases h4 : k = 4
                · have hq3 : 0 ≤ q := by
                    rcases Int.lt_or_le q 0 with h | h
                    · rw [hq0 h] at h4; cases h4
                    · exact h
                  have b3 : IntKind.i64.wrap (q - 1) = q - 1 := by rw [IntKind.wrap_i64]; omega
                  subst h4
                  clear hq0
                  go_wp2_with fail
                  go_roundw
                  case rel => exact ⟨q - 1, by omega, by omega, rfl, by rw [Hsk.out, skipsAt_more Hk.out.symm hq3], HB6⟩
                  case measure => simp [intOf]; omega
                · have d4 : ((k : Int) == 4) = false := by rw [beq_eq_false_iff_ne]; omega
                  have hfin : skipsAt (ofK Φ zs) (p - 2) = q := by rw [Hsk.out]; exact skipsAt_end (by rw [← Hk.out]; exact h4)
                  have Hfin := Lib.hid hfin
                  clear h4 hfin hq0
                  go_wp2_with fail
                  refine (HS6.out.of hfo q (by omega)).mono ?_
                  rintro e w7 ⟨rfl, hb7⟩
                  rw [← Hk.out]
                  have HB7 := Lib.hid (HB5.out.trans ((HB6.out.trans (hb7.mono HB6.out.size)).mono HB5.out.size))
                  clear hb7 HS6 HB6
                  by_cases h8 : k = 8
                  · have d8 : ((k : Int) != 8) = false := by rw [h8]; rfl
                    have hv : (k != 8) = false := by rw [h8]; rfl
                    have Hv := Lib.hid hv
                    clear h8 hv
                    go_wp2_with fail
                    go_ret
                    refine ⟨?_, HB7.out⟩
                    rw [Hr.out, Hfin.out, ← Hk.out, Hv.out]
                    rfl
                  · have d8 : ((k : Int) != 8) = true := by rw [bne_iff_ne]; omega
                    have hv : (k != 8) = true := by rw [bne_iff_ne]; exact h8
                    have Hv := Lib.hid hv
                    clear h8 hv
                    go_wp2_with fail
                    go_ret
                    refine ⟨?_, HB7.out⟩
                    rw [Hr.out, Hfin.out, ← Hk.out, Hv.out]
                    rfl
            · by_cases hD : a = 9 ∧ b = 9
              · have hr : edgeOf Φ zs p = (flagsAt (ofK Φ zs) (p - 1) % 2 == 0) := by rw [He.out, ← Ha.out, ← Hb.out, hm, if_neg hA, if_neg hBc, if_neg hC, if_pos hD]
                have Hr := Lib.hid hr
                obtain ⟨rfl, rfl⟩ := hD
                clear hm hr Hm hA hBc hC
                go_wp2_with fail
                go_loopw [10] (fun x wr => ∃ n : Nat, (n : Int) ≤ p ∧ x = .int .i64 n ∧ flagsAt (ofK Φ zs) (p - 1) = n + flagsAt (ofK Φ zs) (p - 1 - n) ∧ Hid (Below w5.heap.size w5 wr)) (fun x _ => (p - intOf x).toNat)
                case atStart => exact ⟨0, by omega, rfl, by simp, Below.refl _ _⟩
                case round =>
                  obtain ⟨n, hnp, rfl, hsk, HB⟩ := hrel
                  have HSr := Lib.hid (HS5.out.below HB.out)
                  have Hsk := Lib.hid hsk
                  have b4 : IntKind.i64.wrap (p - 1 - n) = p - 1 - n := by rw [IntKind.wrap_i64]; omega
                  clear hsk
                  go_wp2_with fail
                  refine (HSr.out.of hfo (p - 1 - n) (by omega)).mono ?_
                  rintro e w6 ⟨rfl, hb6⟩
                  have HB6 := Lib.hid (HB.out.trans (hb6.mono HB.out.size))
                  obtain ⟨k, hk⟩ : ∃ k, k = ofK Φ zs (p - 1 - n) := ⟨_, rfl⟩
                  rw [← hk]
                  have Hk := Lib.hid hk
                  have hq0 : p - 1 - n < 0 → k = 0 := fun h => by rw [hk]; unfold ofK; rw [if_pos h]
                  clear hb6 HSr HB hk
                  by_cases h9 : k = 9
                  · have hq3 : 0 ≤ p - 1 - n := by
                      rcases Int.lt_or_le (p - 1 - n) 0 with h | h
                      · rw [hq0 h] at h9; cases h9
                      · exact h
                    have b5 : IntKind.i64.wrap ((n : Int) + 1) = n + 1 := by rw [IntKind.wrap_i64]; omega
                    have hmore : flagsAt (ofK Φ zs) (p - 1) = (n + 1) + flagsAt (ofK Φ zs) (p - 1 - ((n + 1 : Nat) : Int)) := by
                      rw [Hsk.out, flagsAt_more (Hk.out.symm.trans h9) hq3, show p - 1 - ((n + 1 : Nat) : Int) = p - 1 - n - 1 by omega]
                      omega
                    have Hmore := Lib.hid hmore
                    subst h9
                    clear hq0 hmore
                    go_wp2_with fail
                    go_roundw
                    case rel => exact ⟨n + 1, by omega, by go_num, Hmore.out, HB6⟩
                    case measure => simp [intOf]; omega
                  · have d9 : ((k : Int) == 9) = false := by rw [beq_eq_false_iff_ne]; omega
                    have hfin : flagsAt (ofK Φ zs) (p - 1) = n := by rw [Hsk.out, flagsAt_end (by rw [← Hk.out]; exact h9)]; omega
                    have Hfin := Lib.hid hfin
                    have HB7 := Lib.hid (HB5.out.trans (HB6.out.mono HB5.out.size))
                    clear h9 hfin hq0
                    by_cases h2 : (n : Int) % 2 = 0
                    · have d2 : ((n : Int) % 2 == 0) = true := by rw [beq_iff_eq]; omega
                      have hv : (n % 2 == 0) = true := by rw [beq_iff_eq]; omega
                      have Hv := Lib.hid hv
                      clear h2 hv
                      go_wp2_with fail
                      go_ret
                      refine ⟨?_, HB7.out⟩
                      rw [Hr.out, Hfin.out, Hv.out]
                      rfl
                    · have d2 : ((n : Int) % 2 == 0) = false := by rw [beq_eq_false_iff_ne]; omega
                      have hv : (n % 2 == 0) = false := by rw [beq_eq_false_iff_ne]; omega
                      have Hv := Lib.hid hv
                      clear h2 hv
                      go_wp2_with fail
                      go_ret
                      refine ⟨?_, HB7.out⟩
                      rw [Hr.out, Hfin.out, Hv.out]
                      rfl
              · have hr : edgeOf Φ zs p = true := by rw [He.out, ← Ha.out, ← Hb.out, hm, if_neg hA, if_neg hBc, if_neg hC, if_neg hD]
                have Hr := Lib.hid hr
                clear hm hr Hm
                go_wp2_with fail
                all_goals
                  first
                    | (go_ret; refine ⟨?_, HB5.out⟩; rw [Hr.out]; rfl)
                    | (exfalso; (try simp only [beq_eq_false_iff_ne, beq_iff_eq, ne_eq, decide_eq_false_iff_not, decide_eq_true_eq] at *); omega)
end Go.Proofs.YtkgomgfhfoomhaaGreatDoor
