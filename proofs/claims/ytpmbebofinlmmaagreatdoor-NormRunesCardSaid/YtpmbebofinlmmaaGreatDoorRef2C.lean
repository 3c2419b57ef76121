/- rubricatorref02: Hex, record. -/
import Derived.Test.YtpmbebofinlmmaaGreatDoorRef2B
namespace Go.Proofs.YtpmbebofinlmmaaGreatDoor
open Go.RowKit
set_option linter.unusedVariables false
set_option linter.unusedSimpArgs false

def HexRef (s : ByteArray) (w : World) (e : Ending) (w' : World) : Prop := e = .returned (.tuple #[.int .i64 ((Sp.hex s.data.toList).getD 0 : Nat), .bool (Sp.hex s.data.toList).isSome]) ∧ w = w'
set_option maxRecDepth 100000 in
set_option maxHeartbeats 1600000 in
theorem hex_ref (s : ByteArray) (w : World) : Calls Tryz.prog 110 #[.string s] w (HexRef s w) := by
  by_cases h46 : s.size < 4 ∨ 6 < s.size
  · have e : Sp.hex s.data.toList = none := by unfold Sp.hex; rw [if_pos (by simpa using h46)]
    have hfin : HexRef s w (.returned (.tuple #[.int .i64 0, .bool false])) w := ⟨by rw [e]; rfl, rfl⟩
    clear e
    rcases h46 with h4 | h6
    · have h4' : decide ((s.size : Int) < 4) = true := by simp; omega
      go_enter Tryz.func110, Tryz.ntmps110
      go_wp2
      go_ret2
      exact hfin
    · have h4' : decide ((s.size : Int) < 4) = false := by simp; omega
      have h6' : decide ((s.size : Int) > 6) = true := by simp; omega
      go_enter Tryz.func110, Tryz.ntmps110
      go_wp2
      go_ret2
      exact hfin
  · have h4 : 4 ≤ s.size := by omega
    have h6 : s.size ≤ 6 := by omega
    have h4' : decide ((s.size : Int) < 4) = false := by simp; omega
    have h6' : decide ((s.size : Int) > 6) = false := by simp; omega
    clear h46
    go_enter Tryz.func110, Tryz.ntmps110
    go_wp2
    go_loopw [4, 5] (fun n i wr => ∃ k m : Nat, k ≤ s.size ∧ w = wr ∧ n = .int .i64 m ∧ i = .int .i64 k ∧ HexAt s k m) (fun _ i _ => s.size - (intOf i).toNat)
    case atStart => exact ⟨0, 0, by omega, rfl, rfl, rfl, rfl, by decide⟩
    case round =>
      obtain ⟨k, m, hk, rfl, rfl, rfl, hat⟩ := hrel
      by_cases hlt : k < s.size
      · have hm := hat.lt (by omega)
        have hbyte : ∀ w, (Instr.index 9 (.string s) (.int .i64 (k : Int))).run Tryz.prog w = .ok (.int .u8 ((s[k]'hlt).toNat : Int)) w := fun w => by
          rw [run_index_string w _ _ _ _ Tryz.underlying9, dif_pos (by omega)]
          rfl
        have Hbad := Lib.hid (fun hd : Sp.hexDig (s[k]'hlt) = none => (show HexRef s w (.returned (.tuple #[.int .i64 0, .bool false])) w from ⟨by rw [hat.bad hlt hd]; rfl, rfl⟩))
        have Hgo := Lib.hid (fun (d : Nat) (hd : Sp.hexDig (s[k]'hlt) = some d) => hat.step hlt hd)
        have hdl := fun (d : Nat) (hd : Sp.hexDig (s[k]'hlt) = some d) => Sp.hexDig_lt hd
        clear hat
        generalize s[k]'hlt = x at *
        have hx := x.toNat_lt
        by_cases hA : 48 ≤ (x.toNat : Int) ∧ (x.toNat : Int) ≤ 57
        · have Hm := Lib.hid (Hgo.out _ (hexDig_a hA.1 hA.2))
          have d1 := decide_eq_true (show (x.toNat : Int) ≥ 48 from hA.1)
          have d2 := decide_eq_true hA.2
          clear Hgo Hbad hdl
          go_wp2
          go_roundw
          case rel => exact ⟨k + 1, m * 16 + (x.toNat - 48), by omega, by first | rfl | trivial, by congr 1; omega, by go_num, Hm.out⟩
          case measure => simp [intOf]; omega
        by_cases hB : 97 ≤ (x.toNat : Int) ∧ (x.toNat : Int) ≤ 102
        · have Hm := Lib.hid (Hgo.out _ (hexDig_c hB.1 hB.2))
          have d1 := decide_eq_true (show (x.toNat : Int) ≥ 48 by omega)
          have d2 := decide_eq_false (show ¬ (x.toNat : Int) ≤ 57 by omega)
          have d3 := decide_eq_true (show (x.toNat : Int) ≥ 97 from hB.1)
          have d4 := decide_eq_true hB.2
          clear Hgo Hbad hdl
          go_wp2
          go_roundw
          case rel => exact ⟨k + 1, m * 16 + (x.toNat - 87), by omega, by first | rfl | trivial, by congr 1; omega, by go_num, Hm.out⟩
          case measure => simp [intOf]; omega
        by_cases hC : 65 ≤ (x.toNat : Int) ∧ (x.toNat : Int) ≤ 70
        · have Hm := Lib.hid (Hgo.out _ (hexDig_b hC.1 hC.2))
          have d1 := decide_eq_true (show (x.toNat : Int) ≥ 48 by omega)
          have d2 := decide_eq_false (show ¬ (x.toNat : Int) ≤ 57 by omega)
          have d3 := decide_eq_false (show ¬ (x.toNat : Int) ≥ 97 by omega)
          have d4 := decide_eq_true (show (x.toNat : Int) ≥ 65 from hC.1)
          have d5 := decide_eq_true hC.2
          clear Hgo Hbad hdl
          go_wp2
          go_roundw
          case rel => exact ⟨k + 1, m * 16 + (x.toNat - 55), by omega, by first | rfl | trivial, by congr 1; omega, by go_num, Hm.out⟩
          case measure => simp [intOf]; omega
        have Hb := Lib.hid (Hbad.out (hexDig_d (by omega) (by omega) (by omega)))
        clear Hgo Hbad hdl
        go_wp2
        all_goals first
          | (go_ret2; exact Hb.out)
          | (exfalso; (try simp only [beq_eq_false_iff_ne, beq_iff_eq, ne_eq, decide_eq_false_iff_not, decide_eq_true_eq] at *); omega)
      · obtain rfl : k = s.size := by omega
        have hfin := hat.done h4 h6
        have hm := hat.lt h6
        have HF := Lib.hid hfin
        clear hfin hat hk hlt
        by_cases hbig : 1114111 < m
        · have hfin2 : HexRef s w (.returned (.tuple #[.int .i64 0, .bool false])) w := ⟨by rw [HF.out, if_pos hbig]; rfl, rfl⟩
          have d1 := decide_eq_true (show (m : Int) > 1114111 by omega)
          clear HF
          go_wp2
          go_ret2
          exact hfin2
        · have hfin2 : HexRef s w (.returned (.tuple #[.int .i64 m, .bool true])) w := ⟨by rw [HF.out, if_neg hbig]; rfl, rfl⟩
          have d1 := decide_eq_false (show ¬ (m : Int) > 1114111 by omega)
          clear HF
          go_wp2
          go_ret2
          exact hfin2
end Go.Proofs.YtpmbebofinlmmaaGreatDoor
