/- rubricatorref02: trim. The text is printed by wip/tools/mkref2.py. -/
import Derived.Test.YtpmbebofinlmmaaGreatDoorRefP
namespace Go.Proofs.YtpmbebofinlmmaaGreatDoor
open Go.RowKit
set_option linter.unusedVariables false
set_option linter.unusedSimpArgs false

def strLen : Value → Nat
  | .string s => s.size
  | _ => 0
theorem ne_byte {b c : UInt8} (h : b ≠ c) : ((b.toNat : Int) == (c.toNat : Int)) = false := by
  rw [beq_eq_false_iff_ne]
  intro e
  exact h (UInt8.toNat_inj.1 (by omega))
set_option maxRecDepth 100000 in
set_option maxHeartbeats 1600000 in
theorem trim_ref (l : Sp.Str) (w : World) (hl : l.length ≤ 4294967296) : Calls Tryz.prog 181 #[.string ⟨l.toArray⟩] w fun e w' => e = .returned (.string ⟨(RSp.trim l).toArray⟩) ∧ w' = w := by
  go_enter Tryz.func181, Tryz.ntmps181
  go_wp2_with fail
  go_loopw [0] (fun v wr => ∃ t : Sp.Str, v = .string ⟨t.toArray⟩ ∧ t.length ≤ l.length ∧ Hid (RSp.trim l = RSp.trimR (RSp.trimL t)) ∧ w = wr) (fun v _ => strLen v)
  case atStart => exact ⟨l, rfl, Nat.le_refl _, rfl, rfl⟩
  case round =>
    obtain ⟨t, rfl, ht, HI, rfl⟩ := hrel
    cases t with
    | nil =>
      have HI1 := Lib.hid (show RSp.trim l = RSp.trimR [] from HI.out)
      clear HI
      go_wp2_with fail
      go_loopw [0] (fun v wr => ∃ t : Sp.Str, v = .string ⟨t.toArray⟩ ∧ t.length ≤ l.length ∧ Hid (RSp.trim l = RSp.trimR t) ∧ w = wr) (fun v _ => strLen v)
      case atStart => exact ⟨_, rfl, Nat.zero_le _, HI1, rfl⟩
      case round =>
        obtain ⟨t2, rfl, ht2, HI2, rfl⟩ := hrel
        rcases List.eq_nil_or_concat t2 with rfl | ⟨t3, b3, h3⟩
        · have Hfin := Lib.hid (show RSp.trim l = [] from HI2.out)
          clear HI2
          go_wp2_with fail
          go_ret
          exact ⟨by rw [Hfin.out]; first | done | rfl, rfl⟩
        · rw [List.concat_eq_append] at h3
          subst h3
          have hsz2 : (⟨(t3 ++ [b3]).toArray⟩ : ByteArray).size = t3.length + 1 := by rw [toB_size]; simp
          have hg2 : (t3 ++ [b3]).getD t3.length 0 = b3 := by simp
          have hbyte2 := fun w => run_byte (P := Tryz.prog) w 9 Tryz.underlying9 (t3 ++ [b3]) t3.length (by simp)
          have hx2 : (⟨(t3 ++ [b3]).toArray⟩ : ByteArray).extract 0 t3.length = ⟨t3.toArray⟩ := by rw [toB_ext]; simp
          rw [hg2] at hbyte2
          have ht3 : t3.length < l.length := by simp at ht2; omega
          have a1 : wrap64 ((t3.length : Int) + 1 - 1) = (t3.length : Int) := by unfold wrap64; omega
          have a3 : IntKind.i64.wrap ((t3.length : Int) + 1 - 1) = (t3.length : Int) := by rw [IntKind.wrap_i64]; omega
          have a2 : ((t3.length : Int) + 1 - 1) = (t3.length : Int) := by omega
          have d0 : decide ((t3.length : Int) + 1 > 0) = true := by rw [decide_eq_true_eq]; omega
          have hl2 := Lib.hid (show strLen (.string ⟨t3.toArray⟩) < strLen (.string ⟨(t3 ++ [b3]).toArray⟩) by show (⟨t3.toArray⟩ : ByteArray).size < (⟨(t3 ++ [b3]).toArray⟩ : ByteArray).size; rw [toB_size, toB_size]; simp)
          have Hmore := Lib.hid (fun hb : RSp.ws b3 = true => (show RSp.trim l = RSp.trimR t3 by rw [HI2.out, RSp.trimR_more hb]))
          have Hend := Lib.hid (fun hb : RSp.ws b3 = false => (show RSp.trim l = t3 ++ [b3] by rw [HI2.out, RSp.trimR_end hb]))
          clear HI2 hg2 ht2
          obtain ⟨T2, hT2⟩ : ∃ T : ByteArray, T = ⟨(t3 ++ [b3]).toArray⟩ := ⟨_, rfl⟩
          rw [← hT2] at hsz2 hbyte2 hx2 hl2 ⊢
          replace hT2 := Lib.hid hT2
          have hsz3 : (T2.size : Int) = (t3.length : Int) + 1 := by rw [hsz2]; rfl
          clear hsz2
          by_cases c1 : b3 = 32
          · have Hm := Lib.hid (Hmore.out (by subst c1; rfl))
            have c2 : ((b3.toNat : Int) == 32) = true := by subst c1; rfl
            clear Hmore Hend c1
            go_wp2_with fail
            go_roundw
            case rel => exact ⟨t3, rfl, by omega, Hm, by first | rfl | trivial⟩
            case measure => exact hl2.out
          · have c2 : ((b3.toNat : Int) == 32) = false := ne_byte c1
            by_cases c3 : b3 = 9
            · have Hm := Lib.hid (Hmore.out (by subst c3; rfl))
              have c4 : ((b3.toNat : Int) == 9) = true := by subst c3; rfl
              clear Hmore Hend c1 c3
              go_wp2_with fail
              go_roundw
              case rel => exact ⟨t3, rfl, by omega, Hm, by first | rfl | trivial⟩
              case measure => exact hl2.out
            · have c4 : ((b3.toNat : Int) == 9) = false := ne_byte c3
              have Hm := Lib.hid (Hend.out (by unfold RSp.ws; rw [beq_eq_false_iff_ne.2 c1, beq_eq_false_iff_ne.2 c3]; rfl))
              clear Hmore Hend c1 c3
              go_wp2_with fail
              go_ret
              exact ⟨by rw [Hm.out, hT2.out]; rfl, rfl⟩
    | cons b t1 =>
      have hsz : (⟨(b :: t1).toArray⟩ : ByteArray).size = t1.length + 1 := by rw [toB_size]; simp
      have hbyte : ∀ w, (Instr.index 9 (.string ⟨(b :: t1).toArray⟩) (.int .i64 0)).run Tryz.prog w = .ok (.int .u8 (((b :: t1).getD 0 0).toNat : Int)) w := fun w => run_byte (P := Tryz.prog) w 9 Tryz.underlying9 (b :: t1) 0 (by simp)
      have hx : (⟨(b :: t1).toArray⟩ : ByteArray).extract 1 (⟨(b :: t1).toArray⟩ : ByteArray).size = ⟨t1.toArray⟩ := by rw [toB_ext, toB_size, List.take_length]; rfl
      have hg : (b :: t1).getD 0 0 = b := rfl
      rw [hg] at hbyte
      have htl : t1.length < l.length := by simp at ht; omega
      have d0 : decide ((t1.length : Int) + 1 > 0) = true := by rw [decide_eq_true_eq]; omega
      have hlt := Lib.hid (show strLen (.string ⟨t1.toArray⟩) < strLen (.string ⟨(b :: t1).toArray⟩) by show (⟨t1.toArray⟩ : ByteArray).size < (⟨(b :: t1).toArray⟩ : ByteArray).size; rw [toB_size, toB_size]; simp)
      have Hmore := Lib.hid (fun hb : RSp.ws b = true => (show RSp.trim l = RSp.trimR (RSp.trimL t1) by rw [HI.out, RSp.trimL_more hb]))
      have Hend := Lib.hid (fun hb : RSp.ws b = false => (show RSp.trim l = RSp.trimR (b :: t1) by rw [HI.out, RSp.trimL_end hb]))
      clear HI hg
      obtain ⟨T, hT⟩ : ∃ T : ByteArray, T = ⟨(b :: t1).toArray⟩ := ⟨_, rfl⟩
      rw [← hT] at hsz hbyte hx hlt ⊢
      replace hT := Lib.hid hT
      have hszi : (T.size : Int) = (t1.length : Int) + 1 := by rw [hsz]; rfl
      clear hsz
      by_cases c1 : b = 32
      · have Hm := Lib.hid (Hmore.out (by subst c1; rfl))
        have c2 : ((b.toNat : Int) == 32) = true := by subst c1; rfl
        clear Hmore Hend c1 ht
        go_wp2_with fail
        go_roundw
        case rel => exact ⟨t1, rfl, by omega, Hm, by first | rfl | trivial⟩
        case measure => exact hlt.out
      · have c2 : ((b.toNat : Int) == 32) = false := ne_byte c1
        by_cases c3 : b = 9
        · have Hm := Lib.hid (Hmore.out (by subst c3; rfl))
          have c4 : ((b.toNat : Int) == 9) = true := by subst c3; rfl
          clear Hmore Hend c1 c3 ht
          go_wp2_with fail
          go_roundw
          case rel => exact ⟨t1, rfl, by omega, Hm, by first | rfl | trivial⟩
          case measure => exact hlt.out
        · have c4 : ((b.toNat : Int) == 9) = false := ne_byte c3
          have HI1 := Lib.hid (Hend.out (by unfold RSp.ws; rw [beq_eq_false_iff_ne.2 c1, beq_eq_false_iff_ne.2 c3]; rfl))
          clear Hmore Hend c1 c3 hlt
          go_wp2_with fail
          clear hbyte hx d0
          rw [hT.out]
          clear hT hszi
          go_loopw [0] (fun v wr => ∃ t : Sp.Str, v = .string ⟨t.toArray⟩ ∧ t.length ≤ l.length ∧ Hid (RSp.trim l = RSp.trimR t) ∧ w = wr) (fun v _ => strLen v)
          case atStart => exact ⟨_, rfl, ht, HI1, rfl⟩
          case round =>
            obtain ⟨t2, rfl, ht2, HI2, rfl⟩ := hrel
            rcases List.eq_nil_or_concat t2 with rfl | ⟨t3, b3, h3⟩
            · have Hfin := Lib.hid (show RSp.trim l = [] from HI2.out)
              clear HI2
              go_wp2_with fail
              go_ret
              exact ⟨by rw [Hfin.out]; first | done | rfl, rfl⟩
            · rw [List.concat_eq_append] at h3
              subst h3
              have hsz2 : (⟨(t3 ++ [b3]).toArray⟩ : ByteArray).size = t3.length + 1 := by rw [toB_size]; simp
              have hg2 : (t3 ++ [b3]).getD t3.length 0 = b3 := by simp
              have hbyte2 := fun w => run_byte (P := Tryz.prog) w 9 Tryz.underlying9 (t3 ++ [b3]) t3.length (by simp)
              have hx2 : (⟨(t3 ++ [b3]).toArray⟩ : ByteArray).extract 0 t3.length = ⟨t3.toArray⟩ := by rw [toB_ext]; simp
              rw [hg2] at hbyte2
              have ht3 : t3.length < l.length := by simp at ht2; omega
              have a1 : wrap64 ((t3.length : Int) + 1 - 1) = (t3.length : Int) := by unfold wrap64; omega
              have a3 : IntKind.i64.wrap ((t3.length : Int) + 1 - 1) = (t3.length : Int) := by rw [IntKind.wrap_i64]; omega
              have a2 : ((t3.length : Int) + 1 - 1) = (t3.length : Int) := by omega
              have d0 : decide ((t3.length : Int) + 1 > 0) = true := by rw [decide_eq_true_eq]; omega
              have hl2 := Lib.hid (show strLen (.string ⟨t3.toArray⟩) < strLen (.string ⟨(t3 ++ [b3]).toArray⟩) by show (⟨t3.toArray⟩ : ByteArray).size < (⟨(t3 ++ [b3]).toArray⟩ : ByteArray).size; rw [toB_size, toB_size]; simp)
              have Hmore := Lib.hid (fun hb : RSp.ws b3 = true => (show RSp.trim l = RSp.trimR t3 by rw [HI2.out, RSp.trimR_more hb]))
              have Hend := Lib.hid (fun hb : RSp.ws b3 = false => (show RSp.trim l = t3 ++ [b3] by rw [HI2.out, RSp.trimR_end hb]))
              clear HI2 hg2 ht2
              obtain ⟨T2, hT2⟩ : ∃ T : ByteArray, T = ⟨(t3 ++ [b3]).toArray⟩ := ⟨_, rfl⟩
              rw [← hT2] at hsz2 hbyte2 hx2 hl2 ⊢
              replace hT2 := Lib.hid hT2
              have hsz3 : (T2.size : Int) = (t3.length : Int) + 1 := by rw [hsz2]; rfl
              clear hsz2
              by_cases c1 : b3 = 32
              · have Hm := Lib.hid (Hmore.out (by subst c1; rfl))
                have c2 : ((b3.toNat : Int) == 32) = true := by subst c1; rfl
                clear Hmore Hend c1
                go_wp2_with fail
                go_roundw
                case rel => exact ⟨t3, rfl, by omega, Hm, by first | rfl | trivial⟩
                case measure => exact hl2.out
              · have c2 : ((b3.toNat : Int) == 32) = false := ne_byte c1
                by_cases c3 : b3 = 9
                · have Hm := Lib.hid (Hmore.out (by subst c3; rfl))
                  have c4 : ((b3.toNat : Int) == 9) = true := by subst c3; rfl
                  clear Hmore Hend c1 c3
                  go_wp2_with fail
                  go_roundw
                  case rel => exact ⟨t3, rfl, by omega, Hm, by first | rfl | trivial⟩
                  case measure => exact hl2.out
                · have c4 : ((b3.toNat : Int) == 9) = false := ne_byte c3
                  have Hm := Lib.hid (Hend.out (by unfold RSp.ws; rw [beq_eq_false_iff_ne.2 c1, beq_eq_false_iff_ne.2 c3]; rfl))
                  clear Hmore Hend c1 c3
                  go_wp2_with fail
                  go_ret
                  exact ⟨by rw [Hm.out, hT2.out]; rfl, rfl⟩
end Go.Proofs.YtpmbebofinlmmaaGreatDoor
