/- The reference's names: rubricatorref05.Loose, number. -/
import Derived.Test.YtchkckfadennhaaGreatDoorNamesW
import Derived.Test.YtchkckfadennhaaGreatDoorRefP
namespace Go.Proofs.YtchkckfadennhaaGreatDoor
open Go.RowKit
set_option linter.unusedVariables false
set_option linter.unusedSimpArgs false

theorem number_ref (l : Sp.Str) (w : World) : Calls Tryz.prog 67 #[.string ⟨l.toArray⟩] w fun e w' => e = .returned (.int .i64 (Sp.numb l)) ∧ w = w' := by
  by_cases h1 : l = [103, 99]
  · subst h1
    go_enter Tryz.func67, Tryz.ntmps67
    go_wp2_with fail
    go_ret
    exact ⟨rfl, rfl⟩
  · have hn1 : (l == [103, 99]) = false := beq_eq_false_iff_ne.2 h1
    by_cases h2 : l = [115, 99]
    · subst h2
      clear hn1 h1
      go_enter Tryz.func67, Tryz.ntmps67
      go_wp2_with fail
      go_ret
      exact ⟨rfl, rfl⟩
    · have hn2 : (l == [115, 99]) = false := beq_eq_false_iff_ne.2 h2
      have hk : Sp.numb l = 3 := by unfold Sp.numb Sp.gc Sp.sc; rw [if_neg h1, if_neg h2]
      rw [hk]
      clear hk h1 h2
      go_enter Tryz.func67, Tryz.ntmps67
      go_wp2_with fail
      go_ret
      exact ⟨rfl, rfl⟩
theorem looseGo_taken (l : Sp.Str) (k : Nat) (hk : k < l.length) : Sp.looseGo (l.take (k + 1)) = Sp.looseGo (l.take k) ++ (Sp.looseB l[k]).toList := by
  rw [List.take_succ_eq_append_getElem hk, Sp.looseGo_snoc]
set_option maxRecDepth 100000 in
set_option maxHeartbeats 1600000 in
theorem loose_ref (l : Sp.Str) (w : World) (hl : l.length ≤ 2000000) : Calls Tryz.prog 94 #[.string ⟨l.toArray⟩] w fun e w' => e = .returned (.string ⟨(Sp.loose l).toArray⟩) ∧ Below w.heap.size w w' := by
  obtain ⟨S, hS⟩ : ∃ S : ByteArray, S = ⟨l.toArray⟩ := ⟨_, rfl⟩
  have hsz : (S.size : Int) = (l.length : Int) := by rw [hS, toB_size]
  rw [← hS]
  have HS := Lib.hid hS
  clear hS
  go_enter Tryz.func94, Tryz.ntmps94
  go_wp2_with fail
  go_loopw [3, 4] (fun v i wr => ∃ k : Nat, k ≤ l.length ∧ i = .int .i64 k ∧ v = .string ⟨(Sp.looseGo (l.take k)).toArray⟩ ∧ Hid (Below w.heap.size w wr)) (fun _ i _ => l.length - (intOf i).toNat)
  case atStart => exact ⟨0, by omega, rfl, rfl, Below.refl _ _⟩
  case round =>
    obtain ⟨k, hk, rfl, rfl, HB⟩ := hrel
    by_cases hlt : k < l.length
    · have d2 := decide_eq_true (show (k : Int) < (l.length : Int) by omega)
      have hbyte := fun w => run_byte (P := Tryz.prog) w 9 Tryz.underlying9 l k hlt
      have hg : l.getD k 0 = l[k] := by rw [List.getD_eq_getElem?_getD, List.getElem?_eq_getElem hlt]; rfl
      rw [hg, ← HS.out] at hbyte
      have hx : (⟨l.toArray⟩ : ByteArray).extract k (k + 1) = ⟨([l[k]] : Sp.Str).toArray⟩ := by
        rw [toB_ext, List.take_succ_eq_append_getElem hlt, List.drop_append_of_le_length (by rw [List.length_take]; omega), List.drop_eq_nil_of_le (by rw [List.length_take]; omega)]
        rfl
      rw [← HS.out] at hx
      have Hsn := Lib.hid (looseGo_taken l k hlt)
      have htl := Sp.looseGo_len (l.take k)
      rw [List.length_take] at htl
      clear hg
      generalize l[k] = c at *
      generalize Sp.looseGo (l.take k) = t at *
      have hadd := fun x : UInt8 => toB_add t [x]
      have hs1 : (⟨t.toArray⟩ : ByteArray).size = t.length := toB_size t
      have hcl : (t.length : Int) + 1 ≤ 9223372036854775807 := by omega
      by_cases h0 : c.toNat = 32 ∨ c.toNat = 45 ∨ c.toNat = 95
      · have Hs2 := Lib.hid (show Sp.looseGo (l.take (k + 1)) = t by rw [Hsn.out, looseB_skip h0]; simp)
        clear Hsn hx hadd hs1 hcl
        generalize c.toNat = n at *
        rcases h0 with rfl | rfl | rfl
        all_goals
          go_wp2_with fail
          go_roundw
          case rel => exact ⟨k + 1, by omega, by go_num, by rw [Hs2.out], HB⟩
          case measure => simp [intOf]; omega
      · by_cases h1 : 65 ≤ c.toNat ∧ c.toNat ≤ 90
        · obtain ⟨d, hd, hdn⟩ := looseB_up h1.1 h1.2
          have Hs2 := Lib.hid (show Sp.looseGo (l.take (k + 1)) = t ++ [d] by rw [Hsn.out, hd]; simp)
          have ho : IntKind.u8.wrap ((c.toNat : Int) + 32) = (d.toNat : Int) := by
            rw [hdn]
            have h2 := h1.2
            generalize c.toNat = n at *
            have : ∀ m : Fin 91, IntKind.u8.wrap ((m.val : Int) + 32) = ((m.val + 32 : Nat) : Int) := by decide
            exact this ⟨n, by omega⟩
          have hb2 := alloc_below wr (.cells #[.int .u8 (d.toNat : Int)] 5)
          have hconv : (convert 135 9 (.slice (some ⟨wr.heap.size, 0, none⟩) 1 1)).run Tryz.prog (wr.alloc (.cells #[.int .u8 (d.toNat : Int)] 5)) = .ok (.string ⟨([d] : Sp.Str).toArray⟩) (wr.alloc (.cells #[.int .u8 (d.toNat : Int)] 5)) := by
            refine run_convert_bytes_back (P := Tryz.prog) _ 135 9 5 ⟨wr.heap.size, 0, none⟩ 1 [d] Tryz.underlying135 Tryz.underlying5 Tryz.underlying9 ?_
            intro j hj
            have : j = 0 := by simp at hj; omega
            subst this
            exact Blk.cell (row_new wr _) 0
          have ha := hadd d
          have hs2 : (⟨([d] : Sp.Str).toArray⟩ : ByteArray).size = 1 := rfl
          have HB2 := Lib.hid (HB.out.trans (hb2.mono HB.out.size))
          clear Hsn hd hdn hx hadd hb2
          generalize (⟨([d] : Sp.Str).toArray⟩ : ByteArray) = D at *
          generalize hCC : (⟨t.toArray⟩ : ByteArray) = CC at *
          generalize c.toNat = n at *
          have e1 : ((n : Int) == 32) = false := beq_eq_false_iff_ne.2 (by omega)
          have e2 : ((n : Int) == 45) = false := beq_eq_false_iff_ne.2 (by omega)
          have e3 : ((n : Int) == 95) = false := beq_eq_false_iff_ne.2 (by omega)
          have e4 : decide ((65 : Int) ≤ (n : Int)) = true := decide_eq_true (by omega)
          have e5 : decide ((n : Int) ≤ 90) = true := decide_eq_true (by omega)
          clear hCC
          go_wp2_with fail
          go_roundw
          case rel => exact ⟨k + 1, by omega, by go_num, by rw [Hs2.out], HB2⟩
          case measure => simp [intOf]; omega
        · have Hs2 := Lib.hid (show Sp.looseGo (l.take (k + 1)) = t ++ [c] by rw [Hsn.out, looseB_else h0 h1]; simp)
          have ha := hadd c
          have hs2 : (⟨([c] : Sp.Str).toArray⟩ : ByteArray).size = 1 := rfl
          clear Hsn hadd
          generalize (⟨([c] : Sp.Str).toArray⟩ : ByteArray) = D at *
          generalize hCC : (⟨t.toArray⟩ : ByteArray) = CC at *
          generalize hn : c.toNat = n at *
          clear hn hCC
          have e1 : ((n : Int) == 32) = false := beq_eq_false_iff_ne.2 (by omega)
          have e2 : ((n : Int) == 45) = false := beq_eq_false_iff_ne.2 (by omega)
          have e3 : ((n : Int) == 95) = false := beq_eq_false_iff_ne.2 (by omega)
          by_cases h2 : 65 ≤ n
          · have e4 : decide ((65 : Int) ≤ (n : Int)) = true := decide_eq_true (by omega)
            have e5 : decide ((n : Int) ≤ 90) = false := decide_eq_false (by omega)
            go_wp2_with fail
            go_roundw
            case rel => exact ⟨k + 1, by omega, by go_num, by rw [Hs2.out], HB⟩
            case measure => simp [intOf]; omega
          · have e4 : decide ((65 : Int) ≤ (n : Int)) = false := decide_eq_false (by omega)
            go_wp2_with fail
            go_roundw
            case rel => exact ⟨k + 1, by omega, by go_num, by rw [Hs2.out], HB⟩
            case measure => simp [intOf]; omega
    · obtain rfl : k = l.length := by omega
      have d2 := decide_eq_false (show ¬ (l.length : Int) < (l.length : Int) by omega)
      rw [List.take_length]
      have hfin : ∀ x, x = Sp.lessIs (Sp.looseGo l) → (Ending.returned (.string ⟨x.toArray⟩) = Ending.returned (.string ⟨(Sp.loose l).toArray⟩) ∧ Below w.heap.size w wr) := fun x hx => ⟨by rw [hx]; rfl, HB.out⟩
      have htl := Sp.looseGo_len l
      generalize Sp.looseGo l = t at *
      have hs1 : (⟨t.toArray⟩ : ByteArray).size = t.length := toB_size t
      have Hfin := Lib.hid hfin
      clear hfin HB
      by_cases h2 : 2 < t.length
      · have hup : (⟨t.toArray⟩ : ByteArray).extract 0 2 = ⟨(t.take 2).toArray⟩ := by rw [toB_ext, List.drop_zero]
        have hfr : (⟨t.toArray⟩ : ByteArray).extract 2 t.length = ⟨(t.drop 2).toArray⟩ := by rw [toB_ext, List.take_length]
        have d5 : (2 : Int) ≤ (t.length : Int) := by omega
        have d3 : decide ((t.length : Int) > 2) = true := decide_eq_true (by omega)
        have d4 : decide ((2 : Int) < (t.length : Int)) = true := decide_eq_true (by omega)
        by_cases h3 : t.take 2 = [105, 115]
        · have hlt2 := Hfin.out (t.drop 2) (by unfold Sp.lessIs; rw [if_pos ⟨h3, h2⟩])
          have e4 : (t.take 2 == [105, 115]) = true := beq_iff_eq.2 h3
          clear Hfin h3
          go_wp2_with fail
          go_ret
          exact hlt2
        · have hlt2 := Hfin.out t (by unfold Sp.lessIs; rw [if_neg (fun h => h3 h.1)])
          have e4 : (t.take 2 == [105, 115]) = false := beq_eq_false_iff_ne.2 h3
          clear Hfin h3
          go_wp2_with fail
          go_ret
          exact hlt2
      · have hlt2 := Hfin.out t (by unfold Sp.lessIs; rw [if_neg (fun h => h2 h.2)])
        have d3 : decide ((t.length : Int) > 2) = false := decide_eq_false (by omega)
        have d4 : decide ((2 : Int) < (t.length : Int)) = false := decide_eq_false (by omega)
        clear Hfin
        go_wp2_with fail
        go_ret
        exact hlt2
end Go.Proofs.YtchkckfadennhaaGreatDoor
