/- rubricatorref03.Has of a row of one's own; a code point out of any int. -/
import Derived.Test.YtchkckfadennhaaGreatDoorSetW
namespace Go.Proofs.YtchkckfadennhaaGreatDoor
open Go.RowKit Go.Maps
set_option linter.unusedVariables false
set_option linter.unusedSimpArgs false

def inRgS (r : Int) (x : Rg) : Bool := decide (x.lo ≤ r) && decide (r ≤ x.hi)
def hasS (rs : List Rg) (r : Int) : Bool := (decide (0 ≤ r) && decide (r ≤ 1114111)) && rs.any (inRgS r)
theorem hasS_iff (rs : List Rg) (r : Int) : hasS rs r = true ↔ (0 ≤ r ∧ r ≤ 1114111) ∧ inSet rs r := by
  unfold hasS inSet inRgS
  simp only [Bool.and_eq_true, decide_eq_true_eq, List.any_eq_true]
set_option maxRecDepth 100000 in
theorem hasr_walk (w : World) (base : Nat) (v : Value) (rs : List Rg) (r : Int) (hl : RgsAt w base v rs) (hn : rs.length ≤ 2000000) : Calls Tryz.prog 9 #[v, .int .i64 r] w fun e w' => e = .returned (.bool (hasS rs r)) ∧ Below w.heap.size w w' := by
  have HZ := Lib.hid hl
  obtain ⟨A, c, rfl⟩ := own_slice hl
  clear hl
  go_enter Tryz.func9, Tryz.ntmps9
  go_wp2_with fail
  go_loopw [9] (fun i wr => ∃ k : Nat, k ≤ rs.length ∧ i = .int .i64 k ∧ Hid (hasS rs r = hasS (rs.drop k) r) ∧ Hid (Below w.heap.size w wr)) (fun i _ => rs.length - (intOf i).toNat)
  case atStart => exact ⟨0, by omega, rfl, by show hasS rs r = hasS (rs.drop 0) r; rw [List.drop_zero], Below.refl _ _⟩
  case round =>
    obtain ⟨k, hk, rfl, HI, HB⟩ := hrel
    by_cases hlt : k < rs.length
    · obtain ⟨g, cap, e, _, hgl, _, _⟩ := own_form HZ.out (by omega)
      cases e
      obtain ⟨e0, e1⟩ := rgs_get rs k hlt
      have c0 := cell_later HB.out (own_cell HZ.out _ _ e0)
      have c1 := cell_later HB.out (own_cell HZ.out _ _ e1)
      have hd : rs.drop k = rs[k] :: rs.drop (k + 1) := List.drop_eq_getElem_cons hlt
      have HI2 := Lib.hid (show hasS rs r = (((decide (0 ≤ r) && decide (r ≤ 1114111)) && inRgS r rs[k]) || hasS (rs.drop (k + 1)) r) by rw [HI.out, hd]; unfold hasS; rw [List.any_cons, Bool.and_or_distrib_left])
      obtain ⟨x, hx⟩ : ∃ x, x = rs[k] := ⟨_, rfl⟩
      rw [← hx] at c0 c1 HI2
      have hb2 := alloc_below wr (Obj.cells #[Value.int IntKind.i64 x.lo, Value.int IntKind.i64 x.hi] 37)
      have HB2 := Lib.hid (HB.out.trans (hb2.mono HB.out.size))
      clear hd HI e0 e1 hx hb2
      by_cases h1 : r ≥ 0
      · by_cases h2 : r ≤ 1114111
        · by_cases h3 : r ≥ x.lo
          · by_cases h4 : r ≤ x.hi
            · have Hfin := Lib.hid (show hasS rs r = true by rw [HI2.out]; unfold inRgS; rw [decide_eq_true (show x.lo ≤ r from h3), decide_eq_true h4, decide_eq_true (show 0 ≤ r from h1), decide_eq_true h2]; rfl)
              have d1 := decide_eq_true h1
              have d2 := decide_eq_true h2
              have d3 := decide_eq_true h3
              have d4 := decide_eq_true h4
              clear h1 h2 h3 h4 HI2 HB
              go_wp2_with fail
              go_ret
              refine ⟨?_, HB2.out⟩
              rw [Hfin.out]
              rfl
            · have Hfin := Lib.hid (show hasS rs r = hasS (rs.drop (k + 1)) r by rw [HI2.out]; unfold inRgS; rw [decide_eq_false h4]; simp)
              have d1 := decide_eq_true h1
              have d2 := decide_eq_true h2
              have d3 := decide_eq_true h3
              have d4 := decide_eq_false h4
              clear h1 h2 h3 h4 HI2 HB
              go_wp2_with fail
              go_roundw
              case rel => exact ⟨k + 1, by omega, by go_num, Hfin, HB2⟩
              case measure => simp [intOf]; omega
          · have Hfin := Lib.hid (show hasS rs r = hasS (rs.drop (k + 1)) r by rw [HI2.out]; unfold inRgS; rw [decide_eq_false (show ¬ x.lo ≤ r from h3)]; simp)
            have d1 := decide_eq_true h1
            have d2 := decide_eq_true h2
            have d3 := decide_eq_false h3
            clear h1 h2 h3 HI2 HB
            go_wp2_with fail
            go_roundw
            case rel => exact ⟨k + 1, by omega, by go_num, Hfin, HB2⟩
            case measure => simp [intOf]; omega
        · have Hfin := Lib.hid (show hasS rs r = hasS (rs.drop (k + 1)) r by rw [HI2.out, decide_eq_false h2]; simp)
          have d1 := decide_eq_true h1
          have d2 := decide_eq_false h2
          clear h1 h2 HI2 HB
          go_wp2_with fail
          go_roundw
          case rel => exact ⟨k + 1, by omega, by go_num, Hfin, HB2⟩
          case measure => simp [intOf]; omega
      · have Hfin := Lib.hid (show hasS rs r = hasS (rs.drop (k + 1)) r by rw [HI2.out, decide_eq_false (show ¬ 0 ≤ r from h1)]; simp)
        have d1 := decide_eq_false h1
        clear h1 HI2 HB
        go_wp2_with fail
        go_roundw
        case rel => exact ⟨k + 1, by omega, by go_num, Hfin, HB2⟩
        case measure => simp [intOf]; omega
    · have hkl : k = rs.length := by omega
      have Hfin := Lib.hid (show hasS rs r = false by rw [HI.out, hkl, List.drop_length]; unfold hasS; simp)
      subst hkl
      clear HI
      go_wp2_with fail
      go_ret
      refine ⟨?_, HB.out⟩
      rw [Hfin.out]
      rfl
theorem tmod_s (k : Int) (a : Int) (hk : 0 < k) : (IntKind.u64.wrap a).tmod k = a % 18446744073709551616 % k := by
  have : IntKind.u64.wrap a = a % 18446744073709551616 := by simp [IntKind.wrap, IntKind.bits, IntKind.signed]
  rw [this, Int.tmod_eq_emod_of_nonneg (by omega)]
theorem pointMod (a : Int) : ∃ p : Nat, p < 1114112 ∧ (IntKind.u64.wrap a).tmod 1114112 = p ∧ wrap64 (p : Int) = p ∧ (Lit.int .i64 (p : Int)).wf = true ∧ 0 ≤ (p : Int) ∧ (p : Int) ≤ 1114111 := by
  obtain ⟨p, hp⟩ : ∃ p : Nat, (p : Int) = a % 18446744073709551616 % 1114112 := ⟨(a % 18446744073709551616 % 1114112).toNat, by omega⟩
  have hp2 : p < 1114112 := by omega
  refine ⟨p, hp2, by rw [tmod_s _ _ (by decide), hp], by unfold wrap64; omega, wf_i64 (by omega) (by omega), by omega, by omega⟩
/-- A set's list is no longer than there are code points. -/
theorem can_few {L : List Rg} (h : CanL L) (hin : ∀ r, inSet L r → 0 ≤ r ∧ r ≤ 1114111) : L.length ≤ 2000000 := by
  have key : ∀ (L : List Rg) (a : Int), CanL L → (∀ x ∈ L, a ≤ x.lo) → (∀ x ∈ L, x.lo ≤ 1114111) → a ≤ 1114112 → (L.length : Int) ≤ 1114112 - a := by
    intro L
    induction L with
    | nil => intro a _ _ _ h; simp; omega
    | cons x L ih =>
      intro a hc hlo hhi ha
      obtain ⟨c1, c2, c3⟩ := hc.tail
      have h1 := hlo x (by simp)
      have h2 := hhi x (by simp)
      have := ih (x.lo + 1) c1 (fun y hy => by have := c2 y hy; omega) (fun y hy => hhi y (List.mem_cons_of_mem _ hy)) (by omega)
      rw [List.length_cons]
      omega
  have := key L 0 h (fun x hx => (hin x.lo ⟨x, hx, Int.le_refl _, h.2 x hx⟩).1) (fun x hx => (hin x.lo ⟨x, hx, Int.le_refl _, h.2 x hx⟩).2) (by omega)
  omega
end Go.Proofs.YtchkckfadennhaaGreatDoor
