/- rubricatorref12: After. -/
import Derived.Test.YthoegenipbohmaaGreatDoorItmC
import Derived.Test.YthoegenipbohmaaGreatDoorOpen
namespace Go.Proofs.YthoegenipbohmaaGreatDoor
open Go.RowKit Utf Itm
set_option linter.unusedVariables false
set_option linter.unusedSimpArgs false
section
variable {w : World} {B q : Nat} {bs : List Nat} {L : List It}
set_option maxRecDepth 100000 in
theorem rafter_walk (h : RTextAt w B q bs L) (hl : L.length ≤ 100000) (at_ : Int) : Calls Tryz.prog 29 #[.pointer (some ⟨q, 0, none⟩), .int .i64 at_] w fun e w' => ∃ n, e = .returned (.int .i64 (n : Nat)) ∧ IsAft at_ L n ∧ Below w.heap.size w w' := by
  obtain ⟨_, h1, vb, vl, h2, _, h4⟩ := h
  have c1 := h2.cell 1
  obtain ⟨Al, cl, rfl⟩ := own_slice h4
  have HV := Lib.hid (show ItemsAt w B (.slice Al L.length cl) L from h4)
  clear h2 h4 h1
  go_enter Tryz.func29, Tryz.ntmps29
  go_wp2_with fail
  go_loopw [5, 13] (fun m i wr => ∃ k n : Nat, k ≤ L.length ∧ i = .int .i64 k ∧ m = .int .i64 n ∧ Hid (n ≤ k ∧ (∀ j, (h : j < L.length) → n ≤ j → j < k → at_ ≤ L[j].s) ∧ (n = 0 ∨ ∃ h : n - 1 < L.length, L[n - 1].s < at_)) ∧ Hid (Below w.heap.size w wr)) (fun _ i _ => L.length - (intOf i).toNat)
  case atStart => exact ⟨0, 0, Nat.zero_le _, rfl, rfl, ⟨Nat.le_refl _, fun j _ _ h => by omega, .inl rfl⟩, Below.refl _ _⟩
  case round =>
    obtain ⟨k, n, hk, rfl, rfl, HK, HB⟩ := hrel
    by_cases hkl : k < L.length
    · obtain ⟨gl, cap, hv, _⟩ := own_form HV.out (by omega)
      injection hv with hA h0 h1
      subst hA h1
      clear h0
      obtain ⟨x, hx⟩ : ∃ x, x = L[k] := ⟨_, rfl⟩
      obtain ⟨p0, p1, p2⟩ := items_get L k hkl
      rw [← hx] at p0 p1 p2
      have q0 := cell_later HB.out (own_cell HV.out _ _ p0)
      have q1 := cell_later HB.out (own_cell HV.out _ _ p1)
      have q2 := cell_later HB.out (own_cell HV.out _ _ p2)
      have hba := alloc_below wr (Obj.cells #[.int .i64 x.r, .int .i64 x.s, .int .i64 x.e] 25)
      have HB2 := Lib.hid (HB.out.trans (hba.mono HB.out.size))
      have w1 : IntKind.i64.wrap ((k : Int) + 1) = ((k + 1 : Nat) : Int) := by rw [IntKind.wrap_i64]; omega
      clear p0 p1 p2 hba HB
      by_cases hlt : x.s < at_
      · have d1 : decide (x.s < at_) = true := decide_eq_true hlt
        have HK2 := Lib.hid (show k + 1 ≤ k + 1 ∧ (∀ j, (h : j < L.length) → k + 1 ≤ j → j < k + 1 → at_ ≤ L[j].s) ∧ (k + 1 = 0 ∨ ∃ h : k + 1 - 1 < L.length, L[k + 1 - 1].s < at_) from ⟨Nat.le_refl _, fun j _ _ h => by omega, .inr ⟨hkl, by show L[k].s < at_; rw [← hx]; exact hlt⟩⟩)
        clear HK hx hlt
        go_wp2_with fail
        go_roundw
        case rel => exact ⟨k + 1, k + 1, by omega, by go_num, by go_num, HK2, HB2⟩
        case measure => simp [intOf]; omega
      · have d1 : decide (x.s < at_) = false := decide_eq_false hlt
        have HK2 := Lib.hid (show n ≤ k + 1 ∧ (∀ j, (h : j < L.length) → n ≤ j → j < k + 1 → at_ ≤ L[j].s) ∧ (n = 0 ∨ ∃ h : n - 1 < L.length, L[n - 1].s < at_) from ⟨by have := HK.out.1; omega, fun j h1 h2 h3 => by
          rcases Nat.eq_or_lt_of_le (show j ≤ k by omega) with rfl | h4
          · rw [← hx]; omega
          · exact HK.out.2.1 j h1 h2 h4, HK.out.2.2⟩)
        clear HK hx hlt
        go_wp2_with fail
        go_roundw
        case rel => exact ⟨k + 1, n, by omega, by go_num, rfl, HK2, HB2⟩
        case measure => simp [intOf]; omega
    · have hke : k = L.length := by omega
      subst hke
      have HF := Lib.hid (show IsAft at_ L n from ⟨HK.out.1, fun j h1 h2 => HK.out.2.1 j h1 h2 h1, HK.out.2.2⟩)
      clear HK
      go_wp2_with fail
      go_ret
      exact ⟨n, rfl, HF.out, HB.out⟩
end
theorem subj_len (canon : Bool) (bs : List Nat) (hb : bs.length ≤ 300) : (subj canon bs).length ≤ 30000 := by
  have h1 := dec_len bs 0
  unfold subj
  split
  · rw [nfd_len]
    have := (partsL_len files_short2 (dec bs 0)).1
    omega
  · omega
theorem take300 (bs : List Nat) : (bs.take 300).length ≤ 300 := by rw [List.length_take]; omega
open Go.ChangeShapes Go.WideShapes Go.ChangeAt in
theorem u8_byte {z : Int} (h : (Lit.int .u8 z).wf = true) : 0 ≤ z ∧ z ≤ 255 := by
  have e1 : IntKind.u8.min = 0 := by rfl
  have e2 : IntKind.u8.max = 255 := by rfl
  simp only [Lit.wf, Bool.and_eq_true, decide_eq_true_eq, e1, e2] at h
  exact h
open Go.ChangeShapes Go.WideShapes Go.ChangeAt in
set_option maxRecDepth 100000 in
theorem open_bytesV {H : Type} {enc : TypeId × Value → H} {w : World} {r : Reach} {base : Nat} {v : Value} {d : DataW H} {ps : List MemPlace} (hval : Value.okWide Tryz.prog w r base 53 v) (hd : DataW.Trod enc Tryz.prog w 0 (fun _ => true) true 53 v d ps) : ∃ bs, BytesAt w v bs := by
  obtain ⟨A, n, c, rfl⟩ := open_list Tryz.underlying53 hval
  obtain ⟨m, hm⟩ := hd
  rcases open_ints Tryz.underlying53 Tryz.underlying5 (by kernel_rfl) hm with ⟨h, _⟩ | ⟨a, len, cap, zs, h, _, hl, hc, hz, _, hcell, hwf⟩
  · have e : Value.slice A n c = .slice none 0 0 := by simpa [Value.cells] using h
    injection e with e1 e2 e3
    subst e1 e2 e3
    exact ⟨[], none, 0, rfl, Nat.le_refl _, by decide, fun _ => rfl, (fun b hb => by cases hb), fun ad e => by cases e⟩
  · have e : Value.slice A n c = .slice (some a) len cap := by simpa [Value.cells] using h
    injection e with e1 e2 e3
    subst e1 e2 e3
    unfold maxLen at hc
    have hzl : zs.length = c := by simpa using hz
    have htl : ((zs.take n).map Int.toNat).length = n := by rw [List.length_map, List.length_take]; omega
    refine ⟨(zs.take n).map Int.toNat, some a, c, by rw [htl], by omega, by omega, (fun e => by cases e), fun b hb => ?_, fun ad e j hj => ?_⟩
    · obtain ⟨z, hz2, rfl⟩ := List.mem_map.1 hb
      have := u8_byte (hwf z (List.mem_of_mem_take hz2))
      omega
    · cases e
      have hj' : j < n := by rw [htl] at hj; exact hj
      have hj2 : j < zs.length := by omega
      have := u8_byte (hwf zs[j] (List.getElem_mem hj2))
      rw [hcell j hj2, List.getElem_map, List.getElem_take, List.getD_eq_getElem?_getD, List.getElem?_eq_getElem hj2, Option.getD_some]
      congr 2
      omega
end Go.Proofs.YthoegenipbohmaaGreatDoor
