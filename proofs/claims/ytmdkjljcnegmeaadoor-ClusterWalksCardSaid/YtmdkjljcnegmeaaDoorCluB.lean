/- cluster: kindOf, glued. The text of kindOf is printed by a program of mine: the same step for each name. -/
import Derived.Test.YtmdkjljcnegmeaaDoorCluA
namespace Go.Proofs.YtmdkjljcnegmeaaDoor
open Go.RowKit
set_option linter.unusedVariables false
set_option linter.unusedSimpArgs false

def kindNames : List Sp.Str := [[67, 82], [76, 70], [67, 111, 110, 116, 114, 111, 108], [69, 120, 116, 101, 110, 100], [90, 87, 74], [83, 112, 97, 99, 105, 110, 103, 77, 97, 114, 107], [80, 114, 101, 112, 101, 110, 100], [80, 105, 99, 116, 111, 103, 114, 97, 112, 104, 105, 99], [70, 108, 97, 103], [76], [86], [84], [76, 86], [76, 86, 84]]
def kindN (s : Sp.Str) : Nat := (kindNames.idxOf s + 1) % 15
theorem kindN_le (s : Sp.Str) : kindN s ≤ 14 := by unfold kindN; omega
theorem kindN_other {s : Sp.Str} (h : s ∉ kindNames) : kindN s = 0 := by
  unfold kindN
  rw [List.idxOf_eq_length h]
  rfl
set_option maxRecDepth 100000 in
theorem kind_walk (b : ByteArray) (w : World) : Calls Tryd.prog 41 #[.string b] w fun e w' => e = .returned (.int .i64 (kindN b.toList)) ∧ w = w' := by
  by_cases n0 : b.toList = [67, 82]
  · have k : kindN b.toList = 1 := by rw [n0]; rfl
    rw [k]
    have e0 : (b.toList == [67, 82]) = true := beq_iff_eq.2 n0
    clear k
    go_enter Tryd.func41, Tryd.ntmps41
    go_wp2
    go_ret
    exact ⟨rfl, rfl⟩
  by_cases n1 : b.toList = [76, 70]
  · have k : kindN b.toList = 2 := by rw [n1]; rfl
    rw [k]
    have e0 : (b.toList == [67, 82]) = false := beq_eq_false_iff_ne.2 n0
    have e1 : (b.toList == [76, 70]) = true := beq_iff_eq.2 n1
    clear k n0
    go_enter Tryd.func41, Tryd.ntmps41
    go_wp2
    go_ret
    exact ⟨rfl, rfl⟩
  by_cases n2 : b.toList = [67, 111, 110, 116, 114, 111, 108]
  · have k : kindN b.toList = 3 := by rw [n2]; rfl
    rw [k]
    have e0 : (b.toList == [67, 82]) = false := beq_eq_false_iff_ne.2 n0
    have e1 : (b.toList == [76, 70]) = false := beq_eq_false_iff_ne.2 n1
    have e2 : (b.toList == [67, 111, 110, 116, 114, 111, 108]) = true := beq_iff_eq.2 n2
    clear k n0 n1
    go_enter Tryd.func41, Tryd.ntmps41
    go_wp2
    go_ret
    exact ⟨rfl, rfl⟩
  by_cases n3 : b.toList = [69, 120, 116, 101, 110, 100]
  · have k : kindN b.toList = 4 := by rw [n3]; rfl
    rw [k]
    have e0 : (b.toList == [67, 82]) = false := beq_eq_false_iff_ne.2 n0
    have e1 : (b.toList == [76, 70]) = false := beq_eq_false_iff_ne.2 n1
    have e2 : (b.toList == [67, 111, 110, 116, 114, 111, 108]) = false := beq_eq_false_iff_ne.2 n2
    have e3 : (b.toList == [69, 120, 116, 101, 110, 100]) = true := beq_iff_eq.2 n3
    clear k n0 n1 n2
    go_enter Tryd.func41, Tryd.ntmps41
    go_wp2
    go_ret
    exact ⟨rfl, rfl⟩
  by_cases n4 : b.toList = [90, 87, 74]
  · have k : kindN b.toList = 5 := by rw [n4]; rfl
    rw [k]
    have e0 : (b.toList == [67, 82]) = false := beq_eq_false_iff_ne.2 n0
    have e1 : (b.toList == [76, 70]) = false := beq_eq_false_iff_ne.2 n1
    have e2 : (b.toList == [67, 111, 110, 116, 114, 111, 108]) = false := beq_eq_false_iff_ne.2 n2
    have e3 : (b.toList == [69, 120, 116, 101, 110, 100]) = false := beq_eq_false_iff_ne.2 n3
    have e4 : (b.toList == [90, 87, 74]) = true := beq_iff_eq.2 n4
    clear k n0 n1 n2 n3
    go_enter Tryd.func41, Tryd.ntmps41
    go_wp2
    go_ret
    exact ⟨rfl, rfl⟩
  by_cases n5 : b.toList = [83, 112, 97, 99, 105, 110, 103, 77, 97, 114, 107]
  · have k : kindN b.toList = 6 := by rw [n5]; rfl
    rw [k]
    have e0 : (b.toList == [67, 82]) = false := beq_eq_false_iff_ne.2 n0
    have e1 : (b.toList == [76, 70]) = false := beq_eq_false_iff_ne.2 n1
    have e2 : (b.toList == [67, 111, 110, 116, 114, 111, 108]) = false := beq_eq_false_iff_ne.2 n2
    have e3 : (b.toList == [69, 120, 116, 101, 110, 100]) = false := beq_eq_false_iff_ne.2 n3
    have e4 : (b.toList == [90, 87, 74]) = false := beq_eq_false_iff_ne.2 n4
    have e5 : (b.toList == [83, 112, 97, 99, 105, 110, 103, 77, 97, 114, 107]) = true := beq_iff_eq.2 n5
    clear k n0 n1 n2 n3 n4
    go_enter Tryd.func41, Tryd.ntmps41
    go_wp2
    go_ret
    exact ⟨rfl, rfl⟩
  by_cases n6 : b.toList = [80, 114, 101, 112, 101, 110, 100]
  · have k : kindN b.toList = 7 := by rw [n6]; rfl
    rw [k]
    have e0 : (b.toList == [67, 82]) = false := beq_eq_false_iff_ne.2 n0
    have e1 : (b.toList == [76, 70]) = false := beq_eq_false_iff_ne.2 n1
    have e2 : (b.toList == [67, 111, 110, 116, 114, 111, 108]) = false := beq_eq_false_iff_ne.2 n2
    have e3 : (b.toList == [69, 120, 116, 101, 110, 100]) = false := beq_eq_false_iff_ne.2 n3
    have e4 : (b.toList == [90, 87, 74]) = false := beq_eq_false_iff_ne.2 n4
    have e5 : (b.toList == [83, 112, 97, 99, 105, 110, 103, 77, 97, 114, 107]) = false := beq_eq_false_iff_ne.2 n5
    have e6 : (b.toList == [80, 114, 101, 112, 101, 110, 100]) = true := beq_iff_eq.2 n6
    clear k n0 n1 n2 n3 n4 n5
    go_enter Tryd.func41, Tryd.ntmps41
    go_wp2
    go_ret
    exact ⟨rfl, rfl⟩
  by_cases n7 : b.toList = [80, 105, 99, 116, 111, 103, 114, 97, 112, 104, 105, 99]
  · have k : kindN b.toList = 8 := by rw [n7]; rfl
    rw [k]
    have e0 : (b.toList == [67, 82]) = false := beq_eq_false_iff_ne.2 n0
    have e1 : (b.toList == [76, 70]) = false := beq_eq_false_iff_ne.2 n1
    have e2 : (b.toList == [67, 111, 110, 116, 114, 111, 108]) = false := beq_eq_false_iff_ne.2 n2
    have e3 : (b.toList == [69, 120, 116, 101, 110, 100]) = false := beq_eq_false_iff_ne.2 n3
    have e4 : (b.toList == [90, 87, 74]) = false := beq_eq_false_iff_ne.2 n4
    have e5 : (b.toList == [83, 112, 97, 99, 105, 110, 103, 77, 97, 114, 107]) = false := beq_eq_false_iff_ne.2 n5
    have e6 : (b.toList == [80, 114, 101, 112, 101, 110, 100]) = false := beq_eq_false_iff_ne.2 n6
    have e7 : (b.toList == [80, 105, 99, 116, 111, 103, 114, 97, 112, 104, 105, 99]) = true := beq_iff_eq.2 n7
    clear k n0 n1 n2 n3 n4 n5 n6
    go_enter Tryd.func41, Tryd.ntmps41
    go_wp2
    go_ret
    exact ⟨rfl, rfl⟩
  by_cases n8 : b.toList = [70, 108, 97, 103]
  · have k : kindN b.toList = 9 := by rw [n8]; rfl
    rw [k]
    have e0 : (b.toList == [67, 82]) = false := beq_eq_false_iff_ne.2 n0
    have e1 : (b.toList == [76, 70]) = false := beq_eq_false_iff_ne.2 n1
    have e2 : (b.toList == [67, 111, 110, 116, 114, 111, 108]) = false := beq_eq_false_iff_ne.2 n2
    have e3 : (b.toList == [69, 120, 116, 101, 110, 100]) = false := beq_eq_false_iff_ne.2 n3
    have e4 : (b.toList == [90, 87, 74]) = false := beq_eq_false_iff_ne.2 n4
    have e5 : (b.toList == [83, 112, 97, 99, 105, 110, 103, 77, 97, 114, 107]) = false := beq_eq_false_iff_ne.2 n5
    have e6 : (b.toList == [80, 114, 101, 112, 101, 110, 100]) = false := beq_eq_false_iff_ne.2 n6
    have e7 : (b.toList == [80, 105, 99, 116, 111, 103, 114, 97, 112, 104, 105, 99]) = false := beq_eq_false_iff_ne.2 n7
    have e8 : (b.toList == [70, 108, 97, 103]) = true := beq_iff_eq.2 n8
    clear k n0 n1 n2 n3 n4 n5 n6 n7
    go_enter Tryd.func41, Tryd.ntmps41
    go_wp2
    go_ret
    exact ⟨rfl, rfl⟩
  by_cases n9 : b.toList = [76]
  · have k : kindN b.toList = 10 := by rw [n9]; rfl
    rw [k]
    have e0 : (b.toList == [67, 82]) = false := beq_eq_false_iff_ne.2 n0
    have e1 : (b.toList == [76, 70]) = false := beq_eq_false_iff_ne.2 n1
    have e2 : (b.toList == [67, 111, 110, 116, 114, 111, 108]) = false := beq_eq_false_iff_ne.2 n2
    have e3 : (b.toList == [69, 120, 116, 101, 110, 100]) = false := beq_eq_false_iff_ne.2 n3
    have e4 : (b.toList == [90, 87, 74]) = false := beq_eq_false_iff_ne.2 n4
    have e5 : (b.toList == [83, 112, 97, 99, 105, 110, 103, 77, 97, 114, 107]) = false := beq_eq_false_iff_ne.2 n5
    have e6 : (b.toList == [80, 114, 101, 112, 101, 110, 100]) = false := beq_eq_false_iff_ne.2 n6
    have e7 : (b.toList == [80, 105, 99, 116, 111, 103, 114, 97, 112, 104, 105, 99]) = false := beq_eq_false_iff_ne.2 n7
    have e8 : (b.toList == [70, 108, 97, 103]) = false := beq_eq_false_iff_ne.2 n8
    have e9 : (b.toList == [76]) = true := beq_iff_eq.2 n9
    clear k n0 n1 n2 n3 n4 n5 n6 n7 n8
    go_enter Tryd.func41, Tryd.ntmps41
    go_wp2
    go_ret
    exact ⟨rfl, rfl⟩
  by_cases n10 : b.toList = [86]
  · have k : kindN b.toList = 11 := by rw [n10]; rfl
    rw [k]
    have e0 : (b.toList == [67, 82]) = false := beq_eq_false_iff_ne.2 n0
    have e1 : (b.toList == [76, 70]) = false := beq_eq_false_iff_ne.2 n1
    have e2 : (b.toList == [67, 111, 110, 116, 114, 111, 108]) = false := beq_eq_false_iff_ne.2 n2
    have e3 : (b.toList == [69, 120, 116, 101, 110, 100]) = false := beq_eq_false_iff_ne.2 n3
    have e4 : (b.toList == [90, 87, 74]) = false := beq_eq_false_iff_ne.2 n4
    have e5 : (b.toList == [83, 112, 97, 99, 105, 110, 103, 77, 97, 114, 107]) = false := beq_eq_false_iff_ne.2 n5
    have e6 : (b.toList == [80, 114, 101, 112, 101, 110, 100]) = false := beq_eq_false_iff_ne.2 n6
    have e7 : (b.toList == [80, 105, 99, 116, 111, 103, 114, 97, 112, 104, 105, 99]) = false := beq_eq_false_iff_ne.2 n7
    have e8 : (b.toList == [70, 108, 97, 103]) = false := beq_eq_false_iff_ne.2 n8
    have e9 : (b.toList == [76]) = false := beq_eq_false_iff_ne.2 n9
    have e10 : (b.toList == [86]) = true := beq_iff_eq.2 n10
    clear k n0 n1 n2 n3 n4 n5 n6 n7 n8 n9
    go_enter Tryd.func41, Tryd.ntmps41
    go_wp2
    go_ret
    exact ⟨rfl, rfl⟩
  by_cases n11 : b.toList = [84]
  · have k : kindN b.toList = 12 := by rw [n11]; rfl
    rw [k]
    have e0 : (b.toList == [67, 82]) = false := beq_eq_false_iff_ne.2 n0
    have e1 : (b.toList == [76, 70]) = false := beq_eq_false_iff_ne.2 n1
    have e2 : (b.toList == [67, 111, 110, 116, 114, 111, 108]) = false := beq_eq_false_iff_ne.2 n2
    have e3 : (b.toList == [69, 120, 116, 101, 110, 100]) = false := beq_eq_false_iff_ne.2 n3
    have e4 : (b.toList == [90, 87, 74]) = false := beq_eq_false_iff_ne.2 n4
    have e5 : (b.toList == [83, 112, 97, 99, 105, 110, 103, 77, 97, 114, 107]) = false := beq_eq_false_iff_ne.2 n5
    have e6 : (b.toList == [80, 114, 101, 112, 101, 110, 100]) = false := beq_eq_false_iff_ne.2 n6
    have e7 : (b.toList == [80, 105, 99, 116, 111, 103, 114, 97, 112, 104, 105, 99]) = false := beq_eq_false_iff_ne.2 n7
    have e8 : (b.toList == [70, 108, 97, 103]) = false := beq_eq_false_iff_ne.2 n8
    have e9 : (b.toList == [76]) = false := beq_eq_false_iff_ne.2 n9
    have e10 : (b.toList == [86]) = false := beq_eq_false_iff_ne.2 n10
    have e11 : (b.toList == [84]) = true := beq_iff_eq.2 n11
    clear k n0 n1 n2 n3 n4 n5 n6 n7 n8 n9 n10
    go_enter Tryd.func41, Tryd.ntmps41
    go_wp2
    go_ret
    exact ⟨rfl, rfl⟩
  by_cases n12 : b.toList = [76, 86]
  · have k : kindN b.toList = 13 := by rw [n12]; rfl
    rw [k]
    have e0 : (b.toList == [67, 82]) = false := beq_eq_false_iff_ne.2 n0
    have e1 : (b.toList == [76, 70]) = false := beq_eq_false_iff_ne.2 n1
    have e2 : (b.toList == [67, 111, 110, 116, 114, 111, 108]) = false := beq_eq_false_iff_ne.2 n2
    have e3 : (b.toList == [69, 120, 116, 101, 110, 100]) = false := beq_eq_false_iff_ne.2 n3
    have e4 : (b.toList == [90, 87, 74]) = false := beq_eq_false_iff_ne.2 n4
    have e5 : (b.toList == [83, 112, 97, 99, 105, 110, 103, 77, 97, 114, 107]) = false := beq_eq_false_iff_ne.2 n5
    have e6 : (b.toList == [80, 114, 101, 112, 101, 110, 100]) = false := beq_eq_false_iff_ne.2 n6
    have e7 : (b.toList == [80, 105, 99, 116, 111, 103, 114, 97, 112, 104, 105, 99]) = false := beq_eq_false_iff_ne.2 n7
    have e8 : (b.toList == [70, 108, 97, 103]) = false := beq_eq_false_iff_ne.2 n8
    have e9 : (b.toList == [76]) = false := beq_eq_false_iff_ne.2 n9
    have e10 : (b.toList == [86]) = false := beq_eq_false_iff_ne.2 n10
    have e11 : (b.toList == [84]) = false := beq_eq_false_iff_ne.2 n11
    have e12 : (b.toList == [76, 86]) = true := beq_iff_eq.2 n12
    clear k n0 n1 n2 n3 n4 n5 n6 n7 n8 n9 n10 n11
    go_enter Tryd.func41, Tryd.ntmps41
    go_wp2
    go_ret
    exact ⟨rfl, rfl⟩
  by_cases n13 : b.toList = [76, 86, 84]
  · have k : kindN b.toList = 14 := by rw [n13]; rfl
    rw [k]
    have e0 : (b.toList == [67, 82]) = false := beq_eq_false_iff_ne.2 n0
    have e1 : (b.toList == [76, 70]) = false := beq_eq_false_iff_ne.2 n1
    have e2 : (b.toList == [67, 111, 110, 116, 114, 111, 108]) = false := beq_eq_false_iff_ne.2 n2
    have e3 : (b.toList == [69, 120, 116, 101, 110, 100]) = false := beq_eq_false_iff_ne.2 n3
    have e4 : (b.toList == [90, 87, 74]) = false := beq_eq_false_iff_ne.2 n4
    have e5 : (b.toList == [83, 112, 97, 99, 105, 110, 103, 77, 97, 114, 107]) = false := beq_eq_false_iff_ne.2 n5
    have e6 : (b.toList == [80, 114, 101, 112, 101, 110, 100]) = false := beq_eq_false_iff_ne.2 n6
    have e7 : (b.toList == [80, 105, 99, 116, 111, 103, 114, 97, 112, 104, 105, 99]) = false := beq_eq_false_iff_ne.2 n7
    have e8 : (b.toList == [70, 108, 97, 103]) = false := beq_eq_false_iff_ne.2 n8
    have e9 : (b.toList == [76]) = false := beq_eq_false_iff_ne.2 n9
    have e10 : (b.toList == [86]) = false := beq_eq_false_iff_ne.2 n10
    have e11 : (b.toList == [84]) = false := beq_eq_false_iff_ne.2 n11
    have e12 : (b.toList == [76, 86]) = false := beq_eq_false_iff_ne.2 n12
    have e13 : (b.toList == [76, 86, 84]) = true := beq_iff_eq.2 n13
    clear k n0 n1 n2 n3 n4 n5 n6 n7 n8 n9 n10 n11 n12
    go_enter Tryd.func41, Tryd.ntmps41
    go_wp2
    go_ret
    exact ⟨rfl, rfl⟩
  have k : kindN b.toList = 0 := kindN_other (by
    unfold kindNames
    simp only [List.mem_cons, List.not_mem_nil, or_false, not_or]
    exact ⟨n0, n1, n2, n3, n4, n5, n6, n7, n8, n9, n10, n11, n12, n13⟩)
  rw [k]
  have e0 : (b.toList == [67, 82]) = false := beq_eq_false_iff_ne.2 n0
  have e1 : (b.toList == [76, 70]) = false := beq_eq_false_iff_ne.2 n1
  have e2 : (b.toList == [67, 111, 110, 116, 114, 111, 108]) = false := beq_eq_false_iff_ne.2 n2
  have e3 : (b.toList == [69, 120, 116, 101, 110, 100]) = false := beq_eq_false_iff_ne.2 n3
  have e4 : (b.toList == [90, 87, 74]) = false := beq_eq_false_iff_ne.2 n4
  have e5 : (b.toList == [83, 112, 97, 99, 105, 110, 103, 77, 97, 114, 107]) = false := beq_eq_false_iff_ne.2 n5
  have e6 : (b.toList == [80, 114, 101, 112, 101, 110, 100]) = false := beq_eq_false_iff_ne.2 n6
  have e7 : (b.toList == [80, 105, 99, 116, 111, 103, 114, 97, 112, 104, 105, 99]) = false := beq_eq_false_iff_ne.2 n7
  have e8 : (b.toList == [70, 108, 97, 103]) = false := beq_eq_false_iff_ne.2 n8
  have e9 : (b.toList == [76]) = false := beq_eq_false_iff_ne.2 n9
  have e10 : (b.toList == [86]) = false := beq_eq_false_iff_ne.2 n10
  have e11 : (b.toList == [84]) = false := beq_eq_false_iff_ne.2 n11
  have e12 : (b.toList == [76, 86]) = false := beq_eq_false_iff_ne.2 n12
  have e13 : (b.toList == [76, 86, 84]) = false := beq_eq_false_iff_ne.2 n13
  clear k
  go_enter Tryd.func41, Tryd.ntmps41
  go_wp2
  go_ret
  exact ⟨rfl, rfl⟩
def gluedB (a b : Nat) : Bool := [(1, 2), (10, 10), (10, 11), (10, 13), (10, 14), (13, 11), (13, 12), (11, 11), (11, 12), (14, 12), (12, 12)].contains (a, b)
set_option maxRecDepth 100000 in
set_option maxHeartbeats 800000 in
theorem glued_walk (a b : Nat) (ha : a ≤ 14) (hb : b ≤ 14) (w : World) : Calls Tryd.prog 43 #[.agg #[.int .i64 a, .int .i64 b]] w fun e w' => e = .returned (.bool (gluedB a b)) ∧ Below w.heap.size w w' := by
  go_enter Tryd.func43, Tryd.ntmps43
  go_wp2
  all_goals
    go_ret
    refine ⟨?_, alloc_below _ _⟩
    simp [gluedB]
    omega
end Go.Proofs.YtmdkjljcnegmeaaDoor
