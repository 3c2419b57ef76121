/- rubricatorref03.Not; rubricatorref06: with, all, category, Set. Printed by wip/tools/mkr6s.py. -/
import Derived.Test.YtchkckfadennhaaGreatDoorRef6N
import Derived.Test.YtchkckfadennhaaGreatDoorRef3Y
import Derived.Test.YtchkckfadennhaaGreatDoorRef5V
import Derived.Test.YtchkckfadennhaaGreatDoorSetW
namespace Go.Proofs.YtchkckfadennhaaGreatDoor
open Go.RowKit Go.Maps
set_option linter.unusedVariables false
set_option linter.unusedSimpArgs false

set_option maxRecDepth 100000 in
theorem not3_walk (w : World) (vb : Value) (b : List Rg) (hb : RVal w vb b) (hbl : b.length ≤ 200000) :
    Calls Tryz.prog 39 #[vb] w (SetSaid (fun r => (0 ≤ r ∧ r ≤ 1114111) ∧ ¬ inSet b r) (2 * b.length + 3) w) := by
  have hba := alloc_below w (Obj.cells #[Value.int IntKind.i64 0, Value.int IntKind.i64 1114111] 37)
  have hrow : RgsAt (w.alloc (Obj.cells #[Value.int IntKind.i64 0, Value.int IntKind.i64 1114111] 37)) w.heap.size (.slice (some ⟨w.heap.size, 0, none⟩) 1 1) [⟨0, 1114111⟩] := by
    have := World.ownsRow_lit (base := w.heap.size) (e := 37) (size := 2) w #[.int .i64 0, .int .i64 1114111] 1 (Nat.le_refl _) (by decide) (by rfl)
    exact this
  have HB := Lib.hid (both_walk _ _ vb [⟨0, 1114111⟩] b 2 (RVal.of_own hrow) (hb.below hba) (by simp) (by omega) (in2_walk _ _ _ [⟨0, 1114111⟩] b (RVal.of_own hrow).list (hb.below hba).list))
  have HF := Lib.hid (fun e w' h => both_said (kd := 2) (a := [⟨0, 1114111⟩]) (b := b) (w := w.alloc (Obj.cells #[Value.int IntKind.i64 0, Value.int IntKind.i64 1114111] 37)) (w' := w') (e := e) h (F := fun r => (0 ≤ r ∧ r ≤ 1114111) ∧ ¬ inSet b r) (fun r => by
    show _ ∧ (hasB [⟨0, 1114111⟩] r && !hasB b r) = true ↔ _
    rw [Bool.and_eq_true, hasB_iff, Bool.not_eq_true', Bool.eq_false_iff, ne_eq, hasB_iff, inSet_one]
    constructor
    · rintro ⟨h0, h1, h2⟩
      exact ⟨h0, fun h => h2 ⟨h0, h⟩⟩
    · rintro ⟨h0, h1⟩
      exact ⟨h0, ⟨h0, h0⟩, fun h => h1 h.2⟩))
  have HBa := Lib.hid hba
  obtain ⟨⟨_, _, rfl, _⟩, _⟩ := hb
  clear hrow hba
  go_enter Tryz.func39, Tryz.ntmps39
  go_wp2_with fail
  refine HB.out.mono ?_
  intro e w1 h
  obtain ⟨v1, L, rfl, h1, h2, h3, h4, h5⟩ := HF.out e w1 h
  have H1 := Lib.hid (show SetSaid (fun r => (0 ≤ r ∧ r ≤ 1114111) ∧ ¬ inSet b r) (2 * b.length + 3) w (.returned v1) w1 from ⟨v1, L, rfl, own_base h1 HBa.out.size, h2, h3, by simp at h4; omega, HBa.out.trans (h5.mono HBa.out.size)⟩)
  obtain ⟨A1, c1, rfl⟩ := own_slice h1
  clear h h1 h2 h3 h4 h5 HB HF
  go_wp2_with fail
  go_ret
  exact H1.out
theorem rgsIf_snoc (q : Sp.Str → Bool) (rs : List Rec) (x : Rec) : rgsIf q (rs ++ [x]) = rgsIf q rs ++ (if q (fld0 x) then [⟨x.lo, x.hi⟩] else []) := by
  unfold rgsIf
  rw [List.filter_append]
  unfold rgsOf
  rw [List.map_append]
  congr 1
  cases h : q (fld0 x) <;> simp [h]
def withP (v : Sp.Str) (bg : Bool) (s : Sp.Str) : Bool := s == v || (bg && s.take 1 == v)
set_option maxRecDepth 100000 in
set_option maxHeartbeats 1600000 in
theorem with_ref {w : World} {B : Nat} {va : Value} {recs : List Rec} {fv : List Value} (h : RecsAt w B va recs fv) (hok : ∀ x ∈ recs, x.fields ≠ []) (hl : recs.length ≤ 50000) (v : Sp.Str) (bg : Bool) (hne : bg = true → ∀ x ∈ recs, fld0 x ≠ []) :
    Calls Tryz.prog 42 #[va, .string ⟨v.toArray⟩, .bool bg] w (SetSaid (fun r => (0 ≤ r ∧ r ≤ 1114111) ∧ inSet (rgsIf (withP v bg) recs) r) (2 * recs.length + 1) w) := by
  obtain ⟨A0, c0, rfl⟩ := own_slice h.row
  have HR := Lib.hid h
  have Hok := Lib.hid hok
  have Hne := Lib.hid hne
  clear hne
  clear h hok
  go_enter Tryz.func42, Tryz.ntmps42
  go_wp2_with fail
  go_loopw [7, 13] (fun u i wr => ∃ (k : Nat) (O : List Rg), k ≤ recs.length ∧ i = .int .i64 k ∧ Hid (RgsAt wr w.heap.size u O) ∧ Hid (O = rgsIf (withP v bg) (recs.take k)) ∧ O.length ≤ k ∧ Hid (Below w.heap.size w wr)) (fun _ i _ => recs.length - (intOf i).toNat)
  case atStart => exact ⟨0, [], by omega, rfl, World.ownsRow_nil _ _ _ _, rfl, by simp, Below.refl _ _⟩
  case round =>
    obtain ⟨k, O, hk, rfl, HO, HI, hOl, HB⟩ := hrel
    by_cases hlt : k < recs.length
    · have hRr := HR.out.below HB.out
      obtain ⟨g0, cap0, hv, _, _, _, _⟩ := own_form hRr.row (by omega)
      injection hv with hA hn0 hc0
      subst hA hc0
      obtain ⟨u, hu⟩ : ∃ u, u = fv[k]'(by rw [← HR.out.len]; exact hlt) := ⟨_, rfl⟩
      obtain ⟨x, hx⟩ : ∃ x, x = recs[k] := ⟨_, rfl⟩
      obtain ⟨e0, e1, e2⟩ := recCells_get recs fv k HR.out.len hlt
      rw [← hx] at e0 e1
      rw [← hu] at e2
      have c0 := own_cell hRr.row _ _ e0
      have c1 := own_cell hRr.row _ _ e1
      have c2 := own_cell hRr.row _ _ e2
      have hfld := hRr.fld k x u (by rw [hx]; exact List.getElem?_eq_getElem hlt) (by rw [hu]; exact List.getElem?_eq_getElem _)
      have hmem : x ∈ recs := by rw [hx]; exact List.getElem_mem _
      have HI2 := Lib.hid (show rgsIf (withP v bg) (recs.take (k + 1)) = O ++ (if (withP v bg) (fld0 x) then [⟨x.lo, x.hi⟩] else []) by rw [List.take_succ_eq_append_getElem hlt, rgsIf_snoc, ← HI.out, ← hx])
      obtain ⟨s, t, hst⟩ : ∃ s t, x.fields = s :: t := by
        cases hq : x.fields with
        | nil => exact absurd hq (Hok.out x hmem)
        | cons a b => exact ⟨a, b, rfl⟩
      have hs0 : fld0 x = s := by unfold fld0; rw [hst]; rfl
      rw [hs0] at HI2
      rw [hst] at hfld
      obtain ⟨gu, cu, rfl, _, hgu, hcu, _⟩ := own_form hfld (by simp)
      have cs := row_get hfld 0 (by simp)
      have hbx := alloc_below wr (Obj.cells #[Value.int IntKind.i64 x.lo, Value.int IntKind.i64 x.hi, Value.slice (some ⟨gu, 0, none⟩) (s :: t).length cu] 56)
      have cs2 := cell_later hbx cs
      have hrx := row_new wr (Obj.cells #[Value.int IntKind.i64 x.lo, Value.int IntKind.i64 x.hi, Value.slice (some ⟨gu, 0, none⟩) (s :: t).length cu] 56)
      have HOx := Lib.hid (own_below HO.out hbx)
      have HBx := Lib.hid (HB.out.trans (hbx.mono HB.out.size))
      change wr.cell? ⟨gu, 0, none⟩ = some (.string ⟨s.toArray⟩) at cs
      change (wr.alloc (Obj.cells #[Value.int IntKind.i64 x.lo, Value.int IntKind.i64 x.hi, Value.slice (some ⟨gu, 0, none⟩) (s :: t).length cu] 56)).cell? ⟨gu, 0, none⟩ = some (.string ⟨s.toArray⟩) at cs2
      have hnn : (0 : Int) < (((s :: t).length : Nat) : Int) := by simp
      have hnn2 : 0 < (s :: t).length := by simp
      have hbt : (O.length + 1) * 16 ≤ 140737488355328 := by omega
      have Hnes := Lib.hid (fun h : bg = true => (show 1 ≤ s.length by
        have := Hne.out h x hmem
        rw [hs0] at this
        exact List.length_pos_iff.2 this))
      clear hRr hx hu e0 e1 e2 hmem hfld hbx hst hs0 cs hcu
      generalize (s :: t).length = nf at *
      by_cases h1 : s = v
      · have e1 : (s == v) = true := beq_iff_eq.2 h1
        have HI3 := Lib.hid (show O ++ [⟨x.lo, x.hi⟩] = rgsIf (withP v bg) (recs.take (k + 1)) by rw [HI2.out, if_pos (by unfold withP; rw [e1]; rfl)])
        clear HI2 HI h1
        go_wp2_with (at_builtin; refine wp_append_new slRange rfl (.tmp 33) (.tmp 39) rfl w.heap.size u7 _ _ rfl (by exact HOx.out) #[.int .i64 x.lo, .int .i64 x.hi] (by rw [size_new]; rfl) rfl (by simp [Value.oneCell']) (by exact hbt) (by exact HBx.out.size) ?_; intro v5 w5 hown5 hg5; have HO5 := Lib.hid hown5; have HB5 := Lib.hid (HBx.out.grown hg5 HBx.out.size (fun k hk => (own_lt HOx.out k hk).1)); clear hg5 hown5)
        go_roundw
        case rel => exact ⟨k + 1, O ++ [⟨x.lo, x.hi⟩], by omega, by go_num, (by show RgsAt _ _ _ _; unfold RgsAt; rw [rgs_snoc, List.length_append]; exact HO5.out), HI3, by rw [List.length_append, List.length_singleton]; omega, HB5⟩
        case measure => simp [intOf]; omega
      · have e1 : (s == v) = false := beq_eq_false_iff_ne.2 h1
        cases bg with
        | false =>
          have HI3 := Lib.hid (show O = rgsIf (withP v false) (recs.take (k + 1)) by rw [HI2.out, if_neg (by unfold withP; rw [e1]; simp), List.append_nil])
          clear HI2 HI h1
          go_wp2_with fail
          go_roundw
          case rel => exact ⟨k + 1, O, by omega, by go_num, HOx, HI3, by omega, HBx⟩
          case measure => simp [intOf]; omega
        | true =>
          have hs1 := Hnes.out rfl
          have hsz : (⟨s.toArray⟩ : ByteArray).size = s.length := toB_size s
          have hex : (⟨s.toArray⟩ : ByteArray).extract 0 1 = ⟨(s.take 1).toArray⟩ := by rw [toB_ext, List.drop_zero]
          have hs2 : (1 : Int) ≤ (s.length : Int) := by omega
          by_cases h2 : s.take 1 = v
          · have e2 : (s.take 1 == v) = true := beq_iff_eq.2 h2
            have HI3 := Lib.hid (show O ++ [⟨x.lo, x.hi⟩] = rgsIf (withP v true) (recs.take (k + 1)) by rw [HI2.out, if_pos (by unfold withP; rw [e2]; simp)])
            clear HI2 HI h1 h2
            go_wp2_with (at_builtin; refine wp_append_new slRange rfl (.tmp 33) (.tmp 39) rfl w.heap.size u7 _ _ rfl (by exact HOx.out) #[.int .i64 x.lo, .int .i64 x.hi] (by rw [size_new]; rfl) rfl (by simp [Value.oneCell']) (by exact hbt) (by exact HBx.out.size) ?_; intro v5 w5 hown5 hg5; have HO5 := Lib.hid hown5; have HB5 := Lib.hid (HBx.out.grown hg5 HBx.out.size (fun k hk => (own_lt HOx.out k hk).1)); clear hg5 hown5)
            go_roundw
            case rel => exact ⟨k + 1, O ++ [⟨x.lo, x.hi⟩], by omega, by go_num, (by show RgsAt _ _ _ _; unfold RgsAt; rw [rgs_snoc, List.length_append]; exact HO5.out), HI3, by rw [List.length_append, List.length_singleton]; omega, HB5⟩
            case measure => simp [intOf]; omega
          · have e2 : (s.take 1 == v) = false := beq_eq_false_iff_ne.2 h2
            have HI3 := Lib.hid (show O = rgsIf (withP v true) (recs.take (k + 1)) by rw [HI2.out, if_neg (by unfold withP; rw [e1, e2]; simp), List.append_nil])
            clear HI2 HI h1 h2
            go_wp2_with fail
            go_roundw
            case rel => exact ⟨k + 1, O, by omega, by go_num, HOx, HI3, by omega, HBx⟩
            case measure => simp [intOf]; omega
    · obtain rfl : k = recs.length := by omega
      have hI := HI.out
      rw [List.take_length] at hI
      subst hI
      clear HI
      go_wp2_with fail
      refine (make3_walk wr _ _ (RVal.of_own HO.out) (by omega)).mono ?_
      rintro e w5 ⟨v5, L, rfl, h1, h2, h3, h4, h5⟩
      have hfin : SetSaid (fun r => (0 ≤ r ∧ r ≤ 1114111) ∧ inSet (rgsIf (withP v bg) recs) r) (2 * recs.length + 1) w (.returned v5) w5 := ⟨v5, L, rfl, own_base h1 HB.out.size, h2, h3, by omega, HB.out.trans (h5.mono HB.out.size)⟩
      clear h1 h2 h3 h4 h5 HO HB
      go_wp2_with fail
      go_ret
      exact hfin
set_option maxRecDepth 100000 in
set_option maxHeartbeats 1600000 in
theorem all_ref {w : World} {B : Nat} {va : Value} {recs : List Rec} {fv : List Value} (h : RecsAt w B va recs fv) (hok : ∀ x ∈ recs, x.fields ≠ []) (hl : recs.length ≤ 50000) :
    Calls Tryz.prog 40 #[va] w (SetSaid (fun r => (0 ≤ r ∧ r ≤ 1114111) ∧ inSet (rgsIf (fun _ => true) recs) r) (2 * recs.length + 1) w) := by
  obtain ⟨A0, c0, rfl⟩ := own_slice h.row
  have HR := Lib.hid h
  have Hok := Lib.hid hok
  clear h hok
  go_enter Tryz.func40, Tryz.ntmps40
  go_wp2_with fail
  go_loopw [3, 8] (fun u i wr => ∃ (k : Nat) (O : List Rg), k ≤ recs.length ∧ i = .int .i64 k ∧ Hid (RgsAt wr w.heap.size u O) ∧ Hid (O = rgsIf (fun _ => true) (recs.take k)) ∧ O.length ≤ k ∧ Hid (Below w.heap.size w wr)) (fun _ i _ => recs.length - (intOf i).toNat)
  case atStart => exact ⟨0, [], by omega, rfl, World.ownsRow_nil _ _ _ _, rfl, by simp, Below.refl _ _⟩
  case round =>
    obtain ⟨k, O, hk, rfl, HO, HI, hOl, HB⟩ := hrel
    by_cases hlt : k < recs.length
    · have hRr := HR.out.below HB.out
      obtain ⟨g0, cap0, hv, _, _, _, _⟩ := own_form hRr.row (by omega)
      injection hv with hA hn0 hc0
      subst hA hc0
      obtain ⟨u, hu⟩ : ∃ u, u = fv[k]'(by rw [← HR.out.len]; exact hlt) := ⟨_, rfl⟩
      obtain ⟨x, hx⟩ : ∃ x, x = recs[k] := ⟨_, rfl⟩
      obtain ⟨e0, e1, e2⟩ := recCells_get recs fv k HR.out.len hlt
      rw [← hx] at e0 e1
      rw [← hu] at e2
      have c0 := own_cell hRr.row _ _ e0
      have c1 := own_cell hRr.row _ _ e1
      have c2 := own_cell hRr.row _ _ e2
      have hfld := hRr.fld k x u (by rw [hx]; exact List.getElem?_eq_getElem hlt) (by rw [hu]; exact List.getElem?_eq_getElem _)
      have hmem : x ∈ recs := by rw [hx]; exact List.getElem_mem _
      have HI2 := Lib.hid (show rgsIf (fun _ => true) (recs.take (k + 1)) = O ++ (if (fun _ => true) (fld0 x) then [⟨x.lo, x.hi⟩] else []) by rw [List.take_succ_eq_append_getElem hlt, rgsIf_snoc, ← HI.out, ← hx])
      obtain ⟨s, t, hst⟩ : ∃ s t, x.fields = s :: t := by
        cases hq : x.fields with
        | nil => exact absurd hq (Hok.out x hmem)
        | cons a b => exact ⟨a, b, rfl⟩
      have hs0 : fld0 x = s := by unfold fld0; rw [hst]; rfl
      rw [hs0] at HI2
      rw [hst] at hfld
      obtain ⟨gu, cu, rfl, _, hgu, hcu, _⟩ := own_form hfld (by simp)
      have cs := row_get hfld 0 (by simp)
      have hbx := alloc_below wr (Obj.cells #[Value.int IntKind.i64 x.lo, Value.int IntKind.i64 x.hi, Value.slice (some ⟨gu, 0, none⟩) (s :: t).length cu] 56)
      have cs2 := cell_later hbx cs
      have hrx := row_new wr (Obj.cells #[Value.int IntKind.i64 x.lo, Value.int IntKind.i64 x.hi, Value.slice (some ⟨gu, 0, none⟩) (s :: t).length cu] 56)
      have HOx := Lib.hid (own_below HO.out hbx)
      have HBx := Lib.hid (HB.out.trans (hbx.mono HB.out.size))
      change wr.cell? ⟨gu, 0, none⟩ = some (.string ⟨s.toArray⟩) at cs
      change (wr.alloc (Obj.cells #[Value.int IntKind.i64 x.lo, Value.int IntKind.i64 x.hi, Value.slice (some ⟨gu, 0, none⟩) (s :: t).length cu] 56)).cell? ⟨gu, 0, none⟩ = some (.string ⟨s.toArray⟩) at cs2
      have hnn : (0 : Int) < (((s :: t).length : Nat) : Int) := by simp
      have hnn2 : 0 < (s :: t).length := by simp
      have hbt : (O.length + 1) * 16 ≤ 140737488355328 := by omega
      clear hRr hx hu e0 e1 e2 hmem hfld hbx hst hs0 cs hcu
      generalize (s :: t).length = nf at *
      have HI3 := Lib.hid (show O ++ [⟨x.lo, x.hi⟩] = rgsIf (fun _ => true) (recs.take (k + 1)) by rw [HI2.out]; rfl)
      clear HI2 HI
      go_wp2_with (at_builtin; refine wp_append_new slRange rfl (.tmp 12) (.tmp 18) rfl w.heap.size u3 _ _ rfl (by exact HOx.out) #[.int .i64 x.lo, .int .i64 x.hi] (by rw [size_new]; rfl) rfl (by simp [Value.oneCell']) (by exact hbt) (by exact HBx.out.size) ?_; intro v5 w5 hown5 hg5; have HO5 := Lib.hid hown5; have HB5 := Lib.hid (HBx.out.grown hg5 HBx.out.size (fun k hk => (own_lt HOx.out k hk).1)); clear hg5 hown5)
      go_roundw
      case rel => exact ⟨k + 1, O ++ [⟨x.lo, x.hi⟩], by omega, by go_num, (by show RgsAt _ _ _ _; unfold RgsAt; rw [rgs_snoc, List.length_append]; exact HO5.out), HI3, by rw [List.length_append, List.length_singleton]; omega, HB5⟩
      case measure => simp [intOf]; omega
    · obtain rfl : k = recs.length := by omega
      have hI := HI.out
      rw [List.take_length] at hI
      subst hI
      clear HI
      go_wp2_with fail
      refine (make3_walk wr _ _ (RVal.of_own HO.out) (by omega)).mono ?_
      rintro e w5 ⟨v5, L, rfl, h1, h2, h3, h4, h5⟩
      have hfin : SetSaid (fun r => (0 ≤ r ∧ r ≤ 1114111) ∧ inSet (rgsIf (fun _ => true) recs) r) (2 * recs.length + 1) w (.returned v5) w5 := ⟨v5, L, rfl, own_base h1 HB.out.size, h2, h3, by omega, HB.out.trans (h5.mono HB.out.size)⟩
      clear h1 h2 h3 h4 h5 HO HB
      go_wp2_with fail
      go_ret
      exact hfin
end Go.Proofs.YtchkckfadennhaaGreatDoor
