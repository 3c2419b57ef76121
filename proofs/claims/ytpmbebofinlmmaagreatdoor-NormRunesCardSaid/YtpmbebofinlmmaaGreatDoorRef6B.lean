/- rubricatorref06: field, or, and what the tables tell. -/
import Derived.Test.YtpmbebofinlmmaaGreatDoorRef6A
import Derived.Test.YtpmbebofinlmmaaGreatDoorLod2
import Derived.Test.YtpmbebofinlmmaaGreatDoorTxP
namespace Go.Proofs.YtpmbebofinlmmaaGreatDoor
open Go.RowKit
set_option linter.unusedVariables false
set_option linter.unusedSimpArgs false

/-- A row of rows of code points. -/
structure RowsAt (w : World) (B : Nat) (v : Value) (ls : List (List Nat)) (us : List Value) : Prop where
  len : ls.length = us.length
  row : w.ownsRow B 42 1 v ls.length us
  one : ∀ (i : Nat) l u, ls[i]? = some l → us[i]? = some u → w.ownsRow B 3 1 u l.length (intsR l)
theorem RowsAt.below {w w' : World} {B : Nat} {v : Value} {ls : List (List Nat)} {us : List Value} (h : RowsAt w B v ls us) (hb : Below w.heap.size w w') : RowsAt w' B v ls us :=
  ⟨h.len, own_below h.row hb, fun i l u h1 h2 => own_below (h.one i l u h1 h2) hb⟩
def decPts (Φ : Files) : List (List Nat) := Φ.dec.map fun x => Sp.pts (fld0 x)
def folPts (Φ : Files) : List (List Nat) := Φ.fol.map fun x => Sp.pts (fld1 x)
/-- The reference's tables: block b. -/
structure RefAt (w : World) (B b : Nat) (Φ : Files) : Prop where
  all : ∃ v0 v1 v2 v3 v4 v5 v6 v7 v8 f0 f1 f2 f3 f4 f5 f6 u7 u8, Blk w b 91 #[v0, v1, v2, v3, v4, v5, v6, v7, v8] ∧ RecsAt w B v0 Φ.cat f0 ∧ RecsAt w B v1 Φ.comb f1 ∧ RecsAt w B v2 Φ.clu f2 ∧ RecsAt w B v3 Φ.word f3 ∧ RecsAt w B v4 Φ.scr f4 ∧
    RecsAt w B v5 Φ.dec f5 ∧ RecsAt w B v6 Φ.fol f6 ∧ RowsAt w B v7 (decPts Φ) u7 ∧ RowsAt w B v8 (folPts Φ) u8
theorem RefAt.below {w w' : World} {B b : Nat} {Φ : Files} (h : RefAt w B b Φ) (hb : Below w.heap.size w w') : RefAt w' B b Φ := by
  obtain ⟨v0, v1, v2, v3, v4, v5, v6, v7, v8, f0, f1, f2, f3, f4, f5, f6, u7, u8, h0, h1, h2, h3, h4, h5, h6, h7, h8, h9⟩ := h.all
  exact ⟨v0, v1, v2, v3, v4, v5, v6, v7, v8, f0, f1, f2, f3, f4, f5, f6, u7, u8, h0.below hb, h1.below hb, h2.below hb, h3.below hb, h4.below hb, h5.below hb, h6.below hb, h7.below hb, h8.below hb, h9.below hb⟩
/-- What field tells: the fields of the first record that has the code point. -/
def FieldSaid (recs : List Rec) (r : Int) (B : Nat) (w : World) (e : Ending) (w' : World) : Prop := ∃ u, e = .returned u ∧ Below w.heap.size w w' ∧
  match recs.find? (inRec2 r) with
  | some x => x ∈ recs ∧ w'.ownsRow B 9 1 u x.fields.length (strVs x.fields)
  | none => u = .slice none 0 0
set_option maxRecDepth 100000 in
set_option maxHeartbeats 1600000 in
theorem field_ref {w : World} {B : Nat} {v : Value} {recs : List Rec} {fv : List Value} (h : RecsAt w B v recs fv) (r : Int) (hl : recs.length ≤ 1000000) :
    Calls Tryz.prog 123 #[v, .int .i64 r] w (FieldSaid recs r B w) := by
  obtain ⟨A0, c0, rfl⟩ := own_slice h.row
  have HR := Lib.hid h
  clear h
  go_enter Tryz.func123, Tryz.ntmps123
  go_wp2_with fail
  go_loopw [9] (fun i wr => ∃ k : Nat, k ≤ recs.length ∧ i = .int .i64 k ∧ Hid (recs.find? (inRec2 r) = (recs.drop k).find? (inRec2 r)) ∧ Hid (Below w.heap.size w wr)) (fun i _ => recs.length - (intOf i).toNat)
  case atStart => exact ⟨0, by omega, rfl, rfl, Below.refl _ _⟩
  case round =>
    obtain ⟨k, hk, rfl, HI, HB⟩ := hrel
    by_cases hlt : k < recs.length
    · have hRr := HR.out.below HB.out
      obtain ⟨g0, cap0, hv, _, _, _, _⟩ := own_form hRr.row (by omega)
      injection hv with hA hn0 hc0
      subst hA hc0
      obtain ⟨u, hu⟩ : ∃ u, u = fv[k]'(by rw [← HR.out.len]; exact hlt) := ⟨_, rfl⟩
      obtain ⟨x, hx⟩ : ∃ x, x = recs[k] := ⟨_, rfl⟩
      obtain ⟨e0, e1, e2⟩ := recCells_get recs fv k HR.out.len hlt
      rw [← hx] at e0 e1
      rw [← hu] at e2
      have c0 := own_cell hRr.row _ _ e0
      have c1 := own_cell hRr.row _ _ e1
      have c2 := own_cell hRr.row _ _ e2
      have hfld := hRr.fld k x u (by rw [hx]; exact List.getElem?_eq_getElem hlt) (by rw [hu]; exact List.getElem?_eq_getElem _)
      have hd : recs.drop k = x :: recs.drop (k + 1) := by rw [hx]; exact List.drop_eq_getElem_cons hlt
      have hmem : x ∈ recs := by rw [hx]; exact List.getElem_mem _
      obtain ⟨Au, cu, rfl⟩ := own_slice hfld
      have hbx := alloc_below wr (Obj.cells #[Value.int IntKind.i64 x.lo, Value.int IntKind.i64 x.hi, Value.slice Au x.fields.length cu] 81)
      have Hfld := Lib.hid (own_below hfld hbx)
      have HBx := Lib.hid (HB.out.trans (hbx.mono HB.out.size))
      have Hmiss := Lib.hid (fun hn : inRec2 r x = false => (show recs.find? (inRec2 r) = (recs.drop (k + 1)).find? (inRec2 r) by rw [HI.out, hd, List.find?_cons, hn]))
      have Hhit := Lib.hid (fun hn : inRec2 r x = true => (show recs.find? (inRec2 r) = some x by rw [HI.out, hd, List.find?_cons, hn]))
      have Hmem := Lib.hid hmem
      clear hRr hx hu e0 e1 e2 hd hmem hfld hbx HI
      by_cases h1 : (x.lo : Int) ≤ r
      · by_cases h2 : r ≤ (x.hi : Int)
        · have Hf := Lib.hid (Hhit.out (by unfold inRec2; rw [decide_eq_true h1, decide_eq_true h2]; rfl))
          have d1 := decide_eq_true (show r ≥ (x.lo : Int) from h1)
          have d2 := decide_eq_true h2
          clear Hmiss Hhit
          go_wp2_with fail
          go_ret
          refine ⟨_, rfl, HBx.out, ?_⟩
          rw [Hf.out]
          exact ⟨Hmem.out, Hfld.out⟩
        · have Hf := Lib.hid (Hmiss.out (by unfold inRec2; rw [decide_eq_false h2, Bool.and_false]))
          have d1 := decide_eq_true (show r ≥ (x.lo : Int) from h1)
          have d2 := decide_eq_false h2
          clear Hmiss Hhit
          go_wp2_with fail
          go_roundw
          case rel => exact ⟨k + 1, by omega, by go_num, Hf, HBx⟩
          case measure => simp [intOf]; omega
      · have Hf := Lib.hid (Hmiss.out (by unfold inRec2; rw [decide_eq_false h1, Bool.false_and]))
        have d1 := decide_eq_false (show ¬ r ≥ (x.lo : Int) from h1)
        clear Hmiss Hhit
        go_wp2_with fail
        go_roundw
        case rel => exact ⟨k + 1, by omega, by go_num, Hf, HBx⟩
        case measure => simp [intOf]; omega
    · obtain rfl : k = recs.length := by omega
      have Hf := Lib.hid (show recs.find? (inRec2 r) = none by rw [HI.out, List.drop_length]; rfl)
      clear HI
      go_wp2_with fail
      go_ret
      refine ⟨_, rfl, HB.out, ?_⟩
      rw [Hf.out]
      rfl
set_option maxRecDepth 100000 in
theorem or_ref {w : World} {B : Nat} {v : Value} {recs : List Rec} {fv : List Value} (h : RecsAt w B v recs fv) (hok : ∀ x ∈ recs, x.fields ≠ []) (r : Int) (hl : recs.length ≤ 1000000) (other : Sp.Str) :
    Calls Tryz.prog 88 #[v, .int .i64 r, .string ⟨other.toArray⟩] w fun e w' => e = .returned (.string ⟨(firstOf recs r other).toArray⟩) ∧ Below w.heap.size w w' := by
  obtain ⟨A0, c0, rfl⟩ := own_slice h.row
  have HF := Lib.hid (field_ref h r hl)
  clear h
  obtain ⟨S, hS⟩ : ∃ S, S = firstOf recs r other := ⟨_, rfl⟩
  rw [← hS]
  unfold firstOf at hS
  have HS := Lib.hid hS
  clear hS
  go_enter Tryz.func88, Tryz.ntmps88
  go_wp2_with fail
  refine HF.out.mono ?_
  rintro e w1 ⟨u, rfl, hb, hm⟩
  have HB := Lib.hid hb
  clear hb HF
  cases hf : recs.find? (inRec2 r) with
  | none =>
    rw [hf] at hm
    obtain rfl : S = other := by rw [HS.out, hf]
    subst hm
    go_wp2_with fail
    go_ret
    exact ⟨rfl, HB.out⟩
  | some x =>
    rw [hf] at hm
    obtain ⟨h1, h2⟩ := hm
    have hne := hok x h1
    obtain ⟨s, t, hst⟩ : ∃ s t, x.fields = s :: t := by
      cases hx : x.fields with
      | nil => exact absurd hx hne
      | cons a b => exact ⟨a, b, rfl⟩
    rw [hst] at h2
    obtain ⟨g, cap, rfl, _⟩ := own_form h2 (by simp)
    have hc : w1.cell? ⟨g, 0, none⟩ = some (.string ⟨s.toArray⟩) := row_get h2 0 (by simp)
    have c1 : (((((s :: t).length : Nat)) : Int) == 0) = false := by rw [beq_eq_false_iff_ne]; simp; omega
    have c2 : (0 : Int) < (((s :: t).length : Nat) : Int) := by simp
    have e0 : fld0 x = s := by unfold fld0; rw [hst]; rfl
    obtain rfl : S = s := by rw [HS.out, hf]; exact e0
    clear h2 hst hne e0 hf
    generalize (S :: t).length = n at *
    go_wp2_with fail
    go_ret
    exact ⟨rfl, HB.out⟩
theorem listOk_ne {rs : List Rec} (h : ListOk rs) : ∀ x ∈ rs, x.fields ≠ [] := fun x hx => (h.ok x hx).2.2
end Go.Proofs.YtpmbebofinlmmaaGreatDoor
