/- rubricatorref06: category, Set. Printed by wip/tools/mkr6t.py. -/
import Derived.Test.YtchkckfadennhaaGreatDoorRef6S
namespace Go.Proofs.YtchkckfadennhaaGreatDoor
open Go.RowKit Go.Maps
set_option linter.unusedVariables false
set_option linter.unusedSimpArgs false

theorem rgsIf_all (rs : List Rec) : rgsIf (fun _ => true) rs = rgsOf rs := by unfold rgsIf; rw [List.filter_eq_self.2 (fun _ _ => rfl)]
theorem withP_which (v : Sp.Str) {bg : Bool} (hb : bg = (v.length == 1)) : withP v bg = which v := by
  funext c
  rw [← whichR_eq]
  unfold withP whichR
  rw [hb]
theorem withP_text (v : Sp.Str) : withP v false = fun c => c == v := by
  funext c
  unfold withP
  simp
theorem which_cn (v : Sp.Str) : which v Cn = true ↔ (v == [67, 110]) = true ∨ (v == [67]) = true := by
  rw [← whichR_eq]
  unfold whichR Cn
  simp only [Bool.or_eq_true, Bool.and_eq_true, beq_iff_eq]
  constructor
  · rintro (h | ⟨h1, h2⟩)
    · exact .inl h.symm
    · right
      rw [← h2]
      rfl
  · rintro (h | h)
    · exact .inl h.symm
    · subst h
      exact .inr ⟨rfl, rfl⟩
section
variable {w : World} {B b : Nat} {Φ : Files}
set_option maxRecDepth 100000 in
theorem categoryR_set (h : RefAt w B b Φ) (hok : FilesOk Φ) (hs : SetsOk Φ) (hne : ∀ x ∈ Φ.cat, fld0 x ≠ []) (v : Sp.Str) :
    Calls Tryz.prog 38 #[.pointer (some ⟨b, 0, none⟩), .string ⟨v.toArray⟩] w (SetSaid (catSet Φ.cat v) 100000 w) := by
  obtain ⟨v0, v1, v2, v3, v4, v5, v6, v7, v8, f0, f1, f2, f3, f4, f5, f6, u7, u8, hb, h0, _⟩ := h.all
  have hc : w.cell? ⟨b, 0, none⟩ = some v0 := hb.cell 0
  have hl := hs.cats
  obtain ⟨bg, hbg⟩ : ∃ bg, bg = (v.length == 1) := ⟨_, rfl⟩
  have hbi : ((v.length : Int) == 1) = bg := by
    rw [hbg, Bool.eq_iff_iff, beq_iff_eq, beq_iff_eq]
    omega
  have hvs : (ByteArray.mk v.toArray).size = v.length := toB_size v
  have HW := Lib.hid (with_ref h0 (listOk_ne hok.cat) (by omega) v bg (fun _ => hne))
  rw [withP_which v hbg] at HW
  have HA := Lib.hid (fun (W : World) (hb : Below w.heap.size w W) => all_ref (h0.below hb) (listOk_ne hok.cat) (by omega))
  rw [rgsIf_all] at HA
  have Hcs := Lib.hid (fun r => catSet_iff hs.cat v r)
  have Hcn := Lib.hid (which_cn v)
  obtain ⟨A0, c0, rfl⟩ := own_slice h0.row
  clear hb h0 h hbg hne
  by_cases hy : v = [67, 110] ∨ v = [67]
  · have hw : which v Cn = true := Hcn.out.2 (by rcases hy with h | h <;> rw [h] <;> decide)
    have Hw := Lib.hid hw
    have hbb : ∃ t1 t2 : Bool, (v == [67, 110]) = t1 ∧ (v == [67]) = t2 ∧ (t1 = true ∨ t2 = true) := ⟨_, _, rfl, rfl, by rcases hy with h | h <;> rw [h] <;> decide⟩
    obtain ⟨t1, t2, e1, e2, e3⟩ := hbb
    clear hy hw Hcn
    have go : ∀ (x : Prop), x → x := fun _ h => h
    rcases t1 with _ | _
    · obtain rfl : t2 = true := by rcases e3 with h | h; cases h; exact h
      clear e3 go
      go_enter Tryz.func38, Tryz.ntmps38
      go_wp2_with fail
      refine HW.out.mono ?_
      rintro e w1 ⟨u1, L1, rfl, hL1, hcan1, hset1, hlen1, hb1⟩
      have HL1 := Lib.hid hL1
      have HB1 := Lib.hid hb1
      have Hs1 := Lib.hid hset1
      obtain ⟨A1, k1, rfl⟩ := own_slice hL1
      clear hL1 hcan1 hset1 hb1 HW
      have c1 := cell_later HB1.out hc
      go_wp2_with fail
      refine (HA.out w1 HB1.out).mono ?_
      rintro e w2 ⟨u2, L2, rfl, hL2, hcan2, hset2, hlen2, hb2⟩
      have HL2 := Lib.hid hL2
      have HB2 := Lib.hid (HB1.out.trans (hb2.mono HB1.out.size))
      have HL12 := Lib.hid (own_below HL1.out hb2)
      have Hs2 := Lib.hid hset2
      obtain ⟨A2, k2, rfl⟩ := own_slice hL2
      clear hL2 hcan2 hset2 hb2 HA HB1 HL1 c1
      go_wp2_with fail
      refine (not3_walk w2 _ L2 (RVal.of_own HL2.out) (by omega)).mono ?_
      rintro e w3 ⟨u3, L3, rfl, hL3, hcan3, hset3, hlen3, hb3⟩
      have HL3 := Lib.hid hL3
      have HB3 := Lib.hid (HB2.out.trans (hb3.mono HB2.out.size))
      have HL13 := Lib.hid (own_below HL12.out hb3)
      have Hs3 := Lib.hid hset3
      obtain ⟨A3, k3, rfl⟩ := own_slice hL3
      clear hL3 hcan3 hset3 hb3 HB2 HL12 HL2
      go_wp2_with fail
      refine (union3_walk w3 _ _ L1 L3 (RVal.of_own HL13.out) (RVal.of_own HL3.out) (by omega) (by omega)).mono ?_
      rintro e w4 ⟨u4, L4, rfl, hL4, hcan4, hset4, hlen4, hb4⟩
      have hfin : SetSaid (catSet Φ.cat v) 100000 w (.returned u4) w4 := by
        refine ⟨u4, L4, rfl, own_base hL4 HB3.out.size, hcan4, fun r => ?_, by omega, HB3.out.trans (hb4.mono HB3.out.size)⟩
        rw [hset4 r]
        show ((0 ≤ r ∧ r ≤ 1114111) ∧ (inSet L1 r ∨ inSet L3 r) ↔ _)
        rw [Hs1.out r, Hs3.out r, Hs2.out r, Hcs.out r]
        constructor
        · rintro ⟨h1, h2 | h2⟩
          · exact ⟨h1, .inl h2.2⟩
          · exact ⟨h1, .inr ⟨Hw.out, fun h => h2.2 ⟨h1, h⟩⟩⟩
        · rintro ⟨h1, h2 | h2⟩
          · exact ⟨h1, .inl ⟨h1, h2⟩⟩
          · exact ⟨h1, .inr ⟨h1, fun h => h2.2 h.2⟩⟩
      obtain ⟨A4, k4, rfl⟩ := own_slice hL4
      clear hL4 hcan4 hset4 hb4
      go_wp2_with fail
      go_ret
      exact hfin
    · clear e3 go
      go_enter Tryz.func38, Tryz.ntmps38
      go_wp2_with fail
      refine HW.out.mono ?_
      rintro e w1 ⟨u1, L1, rfl, hL1, hcan1, hset1, hlen1, hb1⟩
      have HL1 := Lib.hid hL1
      have HB1 := Lib.hid hb1
      have Hs1 := Lib.hid hset1
      obtain ⟨A1, k1, rfl⟩ := own_slice hL1
      clear hL1 hcan1 hset1 hb1 HW
      have c1 := cell_later HB1.out hc
      go_wp2_with fail
      refine (HA.out w1 HB1.out).mono ?_
      rintro e w2 ⟨u2, L2, rfl, hL2, hcan2, hset2, hlen2, hb2⟩
      have HL2 := Lib.hid hL2
      have HB2 := Lib.hid (HB1.out.trans (hb2.mono HB1.out.size))
      have HL12 := Lib.hid (own_below HL1.out hb2)
      have Hs2 := Lib.hid hset2
      obtain ⟨A2, k2, rfl⟩ := own_slice hL2
      clear hL2 hcan2 hset2 hb2 HA HB1 HL1 c1
      go_wp2_with fail
      refine (not3_walk w2 _ L2 (RVal.of_own HL2.out) (by omega)).mono ?_
      rintro e w3 ⟨u3, L3, rfl, hL3, hcan3, hset3, hlen3, hb3⟩
      have HL3 := Lib.hid hL3
      have HB3 := Lib.hid (HB2.out.trans (hb3.mono HB2.out.size))
      have HL13 := Lib.hid (own_below HL12.out hb3)
      have Hs3 := Lib.hid hset3
      obtain ⟨A3, k3, rfl⟩ := own_slice hL3
      clear hL3 hcan3 hset3 hb3 HB2 HL12 HL2
      go_wp2_with fail
      refine (union3_walk w3 _ _ L1 L3 (RVal.of_own HL13.out) (RVal.of_own HL3.out) (by omega) (by omega)).mono ?_
      rintro e w4 ⟨u4, L4, rfl, hL4, hcan4, hset4, hlen4, hb4⟩
      have hfin : SetSaid (catSet Φ.cat v) 100000 w (.returned u4) w4 := by
        refine ⟨u4, L4, rfl, own_base hL4 HB3.out.size, hcan4, fun r => ?_, by omega, HB3.out.trans (hb4.mono HB3.out.size)⟩
        rw [hset4 r]
        show ((0 ≤ r ∧ r ≤ 1114111) ∧ (inSet L1 r ∨ inSet L3 r) ↔ _)
        rw [Hs1.out r, Hs3.out r, Hs2.out r, Hcs.out r]
        constructor
        · rintro ⟨h1, h2 | h2⟩
          · exact ⟨h1, .inl h2.2⟩
          · exact ⟨h1, .inr ⟨Hw.out, fun h => h2.2 ⟨h1, h⟩⟩⟩
        · rintro ⟨h1, h2 | h2⟩
          · exact ⟨h1, .inl ⟨h1, h2⟩⟩
          · exact ⟨h1, .inr ⟨h1, fun h => h2.2 h.2⟩⟩
      obtain ⟨A4, k4, rfl⟩ := own_slice hL4
      clear hL4 hcan4 hset4 hb4
      go_wp2_with fail
      go_ret
      exact hfin
  · have hw : which v Cn = false := by
      cases h : which v Cn with
      | false => rfl
      | true =>
        rcases Hcn.out.1 h with h | h
        · exact absurd (.inl (beq_iff_eq.1 h)) hy
        · exact absurd (.inr (beq_iff_eq.1 h)) hy
    have Hw := Lib.hid hw
    have e1 : (v == [67, 110]) = false := beq_eq_false_iff_ne.2 (fun h => hy (.inl h))
    have e2 : (v == [67]) = false := beq_eq_false_iff_ne.2 (fun h => hy (.inr h))
    clear hy hw Hcn HA
    go_enter Tryz.func38, Tryz.ntmps38
    go_wp2_with fail
    refine HW.out.mono ?_
    rintro e w1 ⟨u1, L1, rfl, hL1, hcan1, hset1, hlen1, hb1⟩
    have hfin : SetSaid (catSet Φ.cat v) 100000 w (.returned u1) w1 := by
      refine ⟨u1, L1, rfl, hL1, hcan1, fun r => ?_, by omega, hb1⟩
      rw [hset1 r, Hcs.out r]
      show ((0 ≤ r ∧ r ≤ 1114111) ∧ inSet (rgsIf (which v) Φ.cat) r ↔ _)
      rw [Hw.out]
      constructor
      · rintro ⟨h1, h2⟩
        exact ⟨h1, .inl h2⟩
      · rintro ⟨h1, h2 | ⟨h2, _⟩⟩
        · exact ⟨h1, h2⟩
        · cases h2
    obtain ⟨A1, k1, rfl⟩ := own_slice hL1
    clear hL1 hcan1 hset1 hb1 HW
    go_wp2_with fail
    go_ret
    exact hfin
end
def ResR (l : Sp.Str) (k : Int) (v : Sp.Str) (x : Int) : Prop := ∀ w, Calls Tryz.prog 37 #[.string ⟨l.toArray⟩] w fun e w' => e = .returned (.tuple #[.int .i64 k, .string ⟨v.toArray⟩, .int .i64 x]) ∧ Below w.heap.size w w'
theorem RVal.slice {w : World} {v : Value} {rs : List Rg} (h : RVal w v rs) : ∃ A c, v = .slice A rs.length c := by
  obtain ⟨⟨A, c, h1, _⟩, _⟩ := h
  exact ⟨A, c, h1⟩
set_option maxRecDepth 100000 in
theorem setR_err {w : World} {B b : Nat} {Φ : Files} (h : RefAt w B b Φ) (hfo : FilesOk Φ) (hok : SetsOk Φ) (hne : ∀ x ∈ Φ.cat, fld0 x ≠ []) (l : Sp.Str) (k : Int) (v : Sp.Str) (x : Int) (hx : x ≠ 0) (hres : ResR l k v x) :
    Calls Tryz.prog 13 #[.pointer (some ⟨b, 0, none⟩), .string ⟨l.toArray⟩] w (PSetSaid Φ k v x w) := by
  have HT := Lib.hid h
  have HRs := Lib.hid hres

  have e0 : (x != 0) = true := by rw [bne, beq_eq_false_iff_ne.2 hx]; rfl
  have Hx := Lib.hid hx
  clear hres h
  go_enter Tryz.func13, Tryz.ntmps13
  go_wp2_with fail
  refine (HRs.out w).mono ?_
  rintro e w1 ⟨rfl, hb1⟩
  have HB1 := Lib.hid hb1
  have HT1 := Lib.hid (HT.out.below hb1)
  clear hb1 HT HRs
  have hfin : PSetSaid Φ k v x w (.returned (.tuple #[.slice none 0 0, .int .i64 x])) w1 := ⟨_, [], rfl, World.ownsRow_nil _ _ _ _, ⟨List.Pairwise.nil, by simp⟩, fun r => ⟨fun h => absurd h (inSet_nil r), fun h => absurd h.1 Hx.out⟩, HB1.out⟩
  clear hx
  go_wp2_with fail
  go_ret2
  exact hfin
set_option maxRecDepth 100000 in
theorem setR_cat {w : World} {B b : Nat} {Φ : Files} (h : RefAt w B b Φ) (hfo : FilesOk Φ) (hok : SetsOk Φ) (hne : ∀ x ∈ Φ.cat, fld0 x ≠ []) (l : Sp.Str) (v : Sp.Str) (hres : ResR l 1 v 0) :
    Calls Tryz.prog 13 #[.pointer (some ⟨b, 0, none⟩), .string ⟨l.toArray⟩] w (PSetSaid Φ 1 v 0 w) := by
  have HT := Lib.hid h
  have HRs := Lib.hid hres

  clear hres h
  go_enter Tryz.func13, Tryz.ntmps13
  go_wp2_with fail
  refine (HRs.out w).mono ?_
  rintro e w1 ⟨rfl, hb1⟩
  have HB1 := Lib.hid hb1
  have HT1 := Lib.hid (HT.out.below hb1)
  clear hb1 HT HRs

  go_wp2_with fail
  refine (categoryR_set HT1.out hfo hok hne v).mono ?_
  rintro e w2 ⟨u, L, rfl, hL, hcan, hset, hlen, hb2⟩
  have hfin : PSetSaid Φ 1 v 0 w (.returned (.tuple #[u, .int .i64 0])) w2 := pset_fin (own_base hL HB1.out.size) hcan (fun r => by rw [hset r]; exact Iff.rfl) (HB1.out.trans (hb2.mono HB1.out.size))
  obtain ⟨AL, cL, rfl⟩ := own_slice hL
  clear hL hcan hset hb2 hlen
  go_wp2_with fail
  go_ret2
  exact hfin
set_option maxRecDepth 100000 in
theorem setR_script {w : World} {B b : Nat} {Φ : Files} (h : RefAt w B b Φ) (hfo : FilesOk Φ) (hok : SetsOk Φ) (hne : ∀ x ∈ Φ.cat, fld0 x ≠ []) (l : Sp.Str) (v : Sp.Str) (hv : v ∉ Sp.six) (hz : v ≠ Zzzz) (hres : ResR l 2 v 0) :
    Calls Tryz.prog 13 #[.pointer (some ⟨b, 0, none⟩), .string ⟨l.toArray⟩] w (PSetSaid Φ 2 v 0 w) := by
  have HT := Lib.hid h
  have HRs := Lib.hid hres

  have e0 : (v == [90, 122, 122, 122]) = false := beq_eq_false_iff_ne.2 hz
  have e1 : (v == [65, 110, 121]) = false := beq_eq_false_iff_ne.2 (fun h => hv (by rw [h]; decide))
  have e2 : (v == [65, 83, 67, 73, 73]) = false := beq_eq_false_iff_ne.2 (fun h => hv (by rw [h]; decide))
  have e3 : (v == [65, 108, 112, 104, 97]) = false := beq_eq_false_iff_ne.2 (fun h => hv (by rw [h]; decide))
  have e4 : (v == [76, 111, 119, 101, 114]) = false := beq_eq_false_iff_ne.2 (fun h => hv (by rw [h]; decide))
  have e5 : (v == [85, 112, 112, 101, 114]) = false := beq_eq_false_iff_ne.2 (fun h => hv (by rw [h]; decide))
  have e6 : (v == [115, 112, 97, 99, 101]) = false := beq_eq_false_iff_ne.2 (fun h => hv (by rw [h]; decide))
  have Hp := Lib.hid (show ∀ r, propSet Φ 2 v r ↔ hitOf Φ.scr r = some v from fun r => by
    unfold propSet
    rw [if_neg (by decide), if_neg hz, if_neg (fun h => hv (by rw [h]; decide)), if_neg (fun h => hv (by rw [h]; decide)), if_neg (fun h => hv (by rw [h]; decide)), if_neg (fun h => hv (by rw [h]; decide)), if_neg (fun h => hv (by rw [h]; decide)), if_neg (fun h => hv (by rw [h]; decide))])
  have Hti := Lib.hid (fun r => textSet_iff hok.scr v r)
  clear hv hz
  clear hres h
  go_enter Tryz.func13, Tryz.ntmps13
  go_wp2_with fail
  refine (HRs.out w).mono ?_
  rintro e w1 ⟨rfl, hb1⟩
  have HB1 := Lib.hid hb1
  have HT1 := Lib.hid (HT.out.below hb1)
  clear hb1 HT HRs

  obtain ⟨v0, v1, v2, v3, v4, v5, v6, v7, v8, f0, f1, f2, f3, f4, f5, f6, u7, u8, hb, _, _, _, _, h4, _⟩ := HT1.out.all
  have hc : w1.cell? ⟨b, 4, none⟩ = some v4 := hb.cell 4
  have hl := hok.scrs
  have H4 := Lib.hid h4
  obtain ⟨A4, c4, rfl⟩ := own_slice h4.row
  clear hb h4
  go_wp2_with fail
  refine (with_ref H4.out (listOk_ne hfo.scr) (by omega) v false (fun h => by cases h)).mono ?_
  rintro e w2 ⟨u, L, rfl, hL, hcan, hset, hlen, hb2⟩
  have hfin : PSetSaid Φ 2 v 0 w (.returned (.tuple #[u, .int .i64 0])) w2 := pset_fin (own_base hL HB1.out.size) hcan (fun r => by rw [hset r]; rw [withP_text]; show ((0 ≤ r ∧ r ≤ 1114111) ∧ inSet (rgsIf (fun c => c == v) Φ.scr) r ↔ _); rw [← Hti.out r, Hp.out r]; unfold textSet; exact ⟨fun h => h.2, fun h => ⟨(hit_in (fun x hx => (hok.scr.ok x hx).2.1) h).1, h⟩⟩) (HB1.out.trans (hb2.mono HB1.out.size))
  obtain ⟨AL, cL, rfl⟩ := own_slice hL
  clear hL hcan hset hb2 hlen
  go_wp2_with fail
  go_ret2
  exact hfin
set_option maxRecDepth 100000 in
theorem setR_zzzz {w : World} {B b : Nat} {Φ : Files} (h : RefAt w B b Φ) (hfo : FilesOk Φ) (hok : SetsOk Φ) (hne : ∀ x ∈ Φ.cat, fld0 x ≠ []) (l : Sp.Str) (hres : ResR l 2 Zzzz 0) :
    Calls Tryz.prog 13 #[.pointer (some ⟨b, 0, none⟩), .string ⟨l.toArray⟩] w (PSetSaid Φ 2 Zzzz 0 w) := by
  have HT := Lib.hid h
  have HRs := Lib.hid hres

  unfold ResR Zzzz at hres HRs
  clear hres h
  go_enter Tryz.func13, Tryz.ntmps13
  go_wp2_with fail
  refine (HRs.out w).mono ?_
  rintro e w1 ⟨rfl, hb1⟩
  have HB1 := Lib.hid hb1
  have HT1 := Lib.hid (HT.out.below hb1)
  clear hb1 HT HRs

  obtain ⟨v0, v1, v2, v3, v4, v5, v6, v7, v8, f0, f1, f2, f3, f4, f5, f6, u7, u8, hb, _, _, _, _, h4, _⟩ := HT1.out.all
  have hc : w1.cell? ⟨b, 4, none⟩ = some v4 := hb.cell 4
  have hl := hok.scrs
  have H4 := Lib.hid h4
  obtain ⟨A4, c4, rfl⟩ := own_slice h4.row
  clear hb h4
  go_wp2_with fail
  refine (all_ref H4.out (listOk_ne hfo.scr) (by omega)).mono ?_
  rintro e w2 ⟨u2, L2, rfl, hL2, hcan2, hset2, hlen2, hb2⟩
  have HL2 := Lib.hid hL2
  have HB2 := Lib.hid (HB1.out.trans (hb2.mono HB1.out.size))
  have Hs2 := Lib.hid hset2
  obtain ⟨A2, k2, rfl⟩ := own_slice hL2
  clear hL2 hcan2 hset2 hb2
  go_wp2_with fail
  refine (not3_walk w2 _ L2 (RVal.of_own HL2.out) (by omega)).mono ?_
  rintro e w3 ⟨u, L, rfl, hL, hcan, hset, hlen, hb3⟩
  have hfin : PSetSaid Φ 2 Zzzz 0 w (.returned (.tuple #[u, .int .i64 0])) w3 := pset_fin (own_base hL HB2.out.size) hcan (fun r => by
    rw [hset r]
    show ((0 ≤ r ∧ r ≤ 1114111) ∧ ¬ inSet L2 r ↔ _)
    rw [Hs2.out r]
    show ((0 ≤ r ∧ r ≤ 1114111) ∧ ¬ ((0 ≤ r ∧ r ≤ 1114111) ∧ inSet (rgsIf (fun _ => true) Φ.scr) r) ↔ _)
    rw [rgsIf_all]
    unfold propSet
    rw [if_neg (by decide), if_pos rfl]
    constructor
    · rintro ⟨h1, h2⟩
      exact ⟨h1, fun h => h2 ⟨h1, h⟩⟩
    · rintro ⟨h1, h2⟩
      exact ⟨h1, fun h => h2 h.2⟩) (HB2.out.trans (hb3.mono HB2.out.size))
  obtain ⟨AL, cL, rfl⟩ := own_slice hL
  clear hL hcan hset hb3 hlen
  go_wp2_with fail
  go_ret2
  exact hfin
set_option maxRecDepth 100000 in
theorem setR_any {w : World} {B b : Nat} {Φ : Files} (h : RefAt w B b Φ) (hfo : FilesOk Φ) (hok : SetsOk Φ) (hne : ∀ x ∈ Φ.cat, fld0 x ≠ []) (l : Sp.Str) (hres : ResR l 3 [65, 110, 121] 0) :
    Calls Tryz.prog 13 #[.pointer (some ⟨b, 0, none⟩), .string ⟨l.toArray⟩] w (PSetSaid Φ 3 [65, 110, 121] 0 w) := by
  have HT := Lib.hid h
  have HRs := Lib.hid hres

  clear hres h
  go_enter Tryz.func13, Tryz.ntmps13
  go_wp2_with fail
  refine (HRs.out w).mono ?_
  rintro e w1 ⟨rfl, hb1⟩
  have HB1 := Lib.hid hb1
  have HT1 := Lib.hid (HT.out.below hb1)
  clear hb1 HT HRs

  have hb2 := alloc_below w1 (.cells #[.int .i64 0, .int .i64 1114111] 37)
  have hrow : (w1.alloc (.cells #[.int .i64 0, .int .i64 1114111] 37)).ownsRow w1.heap.size 37 2 (.slice (some ⟨w1.heap.size, 0, none⟩) 1 1) 1 (([⟨0, 1114111⟩] : List Rg).flatMap rgCells) := by
    have := World.ownsRow_lit (base := w1.heap.size) (e := 37) (size := 2) w1 #[.int .i64 0, .int .i64 1114111] 1 (Nat.le_refl _) (by decide) (by rfl)
    exact this
  have hfin : PSetSaid Φ 3 [65, 110, 121] 0 w (.returned (.tuple #[.slice (some ⟨w1.heap.size, 0, none⟩) 1 1, .int .i64 0])) (w1.alloc (.cells #[.int .i64 0, .int .i64 1114111] 37)) := pset_fin (L := [⟨0, 1114111⟩]) (own_base hrow HB1.out.size) ⟨by simp, by simp⟩ (fun r => by rw [inSet_one]; unfold propSet; rw [if_neg (by decide), if_neg (by decide), if_pos rfl]) (HB1.out.trans (hb2.mono HB1.out.size))
  clear hb2 hrow
  go_wp2_with fail
  go_ret2
  exact hfin
set_option maxRecDepth 100000 in
theorem setR_ascii {w : World} {B b : Nat} {Φ : Files} (h : RefAt w B b Φ) (hfo : FilesOk Φ) (hok : SetsOk Φ) (hne : ∀ x ∈ Φ.cat, fld0 x ≠ []) (l : Sp.Str) (hres : ResR l 3 [65, 83, 67, 73, 73] 0) :
    Calls Tryz.prog 13 #[.pointer (some ⟨b, 0, none⟩), .string ⟨l.toArray⟩] w (PSetSaid Φ 3 [65, 83, 67, 73, 73] 0 w) := by
  have HT := Lib.hid h
  have HRs := Lib.hid hres

  clear hres h
  go_enter Tryz.func13, Tryz.ntmps13
  go_wp2_with fail
  refine (HRs.out w).mono ?_
  rintro e w1 ⟨rfl, hb1⟩
  have HB1 := Lib.hid hb1
  have HT1 := Lib.hid (HT.out.below hb1)
  clear hb1 HT HRs

  have hb2 := alloc_below w1 (.cells #[.int .i64 0, .int .i64 127] 37)
  have hrow : (w1.alloc (.cells #[.int .i64 0, .int .i64 127] 37)).ownsRow w1.heap.size 37 2 (.slice (some ⟨w1.heap.size, 0, none⟩) 1 1) 1 (([⟨0, 127⟩] : List Rg).flatMap rgCells) := by
    have := World.ownsRow_lit (base := w1.heap.size) (e := 37) (size := 2) w1 #[.int .i64 0, .int .i64 127] 1 (Nat.le_refl _) (by decide) (by rfl)
    exact this
  have hfin : PSetSaid Φ 3 [65, 83, 67, 73, 73] 0 w (.returned (.tuple #[.slice (some ⟨w1.heap.size, 0, none⟩) 1 1, .int .i64 0])) (w1.alloc (.cells #[.int .i64 0, .int .i64 127] 37)) := pset_fin (L := [⟨0, 127⟩]) (own_base hrow HB1.out.size) ⟨by simp, by simp⟩ (fun r => by rw [inSet_one]; unfold propSet; rw [if_neg (by decide), if_neg (by decide), if_neg (by decide), if_pos rfl]) (HB1.out.trans (hb2.mono HB1.out.size))
  clear hb2 hrow
  go_wp2_with fail
  go_ret2
  exact hfin
set_option maxRecDepth 100000 in
theorem setR_alpha {w : World} {B b : Nat} {Φ : Files} (h : RefAt w B b Φ) (hfo : FilesOk Φ) (hok : SetsOk Φ) (hne : ∀ x ∈ Φ.cat, fld0 x ≠ []) (l : Sp.Str) (hres : ResR l 3 [65, 108, 112, 104, 97] 0) :
    Calls Tryz.prog 13 #[.pointer (some ⟨b, 0, none⟩), .string ⟨l.toArray⟩] w (PSetSaid Φ 3 [65, 108, 112, 104, 97] 0 w) := by
  have HT := Lib.hid h
  have HRs := Lib.hid hres

  clear hres h
  go_enter Tryz.func13, Tryz.ntmps13
  go_wp2_with fail
  refine (HRs.out w).mono ?_
  rintro e w1 ⟨rfl, hb1⟩
  have HB1 := Lib.hid hb1
  have HT1 := Lib.hid (HT.out.below hb1)
  clear hb1 HT HRs

  go_wp2_with fail
  refine (categoryR_set HT1.out hfo hok hne [76]).mono ?_
  rintro e w2 ⟨u2, L2, rfl, hL2, hcan2, hset2, hlen2, hb2⟩
  have HL2 := Lib.hid hL2
  have HB2 := Lib.hid (HB1.out.trans (hb2.mono HB1.out.size))
  have HT2 := Lib.hid (HT1.out.below hb2)
  have Hs2 := Lib.hid hset2
  obtain ⟨A2, k2, rfl⟩ := own_slice hL2
  clear hL2 hcan2 hset2 hb2
  go_wp2_with fail
  refine (categoryR_set HT2.out hfo hok hne [78, 108]).mono ?_
  rintro e w3 ⟨u3, L3, rfl, hL3, hcan3, hset3, hlen3, hb3⟩
  have HL3 := Lib.hid hL3
  have HL23 := Lib.hid (own_below HL2.out hb3)
  have HB3 := Lib.hid (HB2.out.trans (hb3.mono HB2.out.size))
  have Hs3 := Lib.hid hset3
  obtain ⟨A3, k3, rfl⟩ := own_slice hL3
  clear hL3 hcan3 hset3 hb3
  go_wp2_with fail
  refine (union3_walk w3 _ _ L2 L3 (RVal.of_own HL23.out) (RVal.of_own HL3.out) (by omega) (by omega)).mono ?_
  rintro e w4 ⟨u, L, rfl, hL, hcan, hset, hlen, hb4⟩
  have hfin : PSetSaid Φ 3 [65, 108, 112, 104, 97] 0 w (.returned (.tuple #[u, .int .i64 0])) w4 := pset_fin (own_base hL HB3.out.size) hcan (fun r => by
    rw [hset r]
    show (((0 ≤ r ∧ r ≤ 1114111) ∧ (inSet L2 r ∨ inSet L3 r)) ↔ _)
    rw [Hs2.out r, Hs3.out r]; unfold propSet; rw [if_neg (by decide), if_neg (by decide), if_neg (by decide), if_neg (by decide), if_pos rfl]
    constructor
    · exact fun h => h.2
    · intro h
      refine ⟨?_, h⟩
      rcases h with h | h <;> exact h.1) (HB3.out.trans (hb4.mono HB3.out.size))
  obtain ⟨AL, cL, rfl⟩ := own_slice hL
  clear hL hcan hset hb4 hlen
  go_wp2_with fail
  go_ret2
  exact hfin
set_option maxRecDepth 100000 in
theorem setR_lower {w : World} {B b : Nat} {Φ : Files} (h : RefAt w B b Φ) (hfo : FilesOk Φ) (hok : SetsOk Φ) (hne : ∀ x ∈ Φ.cat, fld0 x ≠ []) (l : Sp.Str) (hres : ResR l 3 [76, 111, 119, 101, 114] 0) :
    Calls Tryz.prog 13 #[.pointer (some ⟨b, 0, none⟩), .string ⟨l.toArray⟩] w (PSetSaid Φ 3 [76, 111, 119, 101, 114] 0 w) := by
  have HT := Lib.hid h
  have HRs := Lib.hid hres

  clear hres h
  go_enter Tryz.func13, Tryz.ntmps13
  go_wp2_with fail
  refine (HRs.out w).mono ?_
  rintro e w1 ⟨rfl, hb1⟩
  have HB1 := Lib.hid hb1
  have HT1 := Lib.hid (HT.out.below hb1)
  clear hb1 HT HRs

  go_wp2_with fail
  refine (categoryR_set HT1.out hfo hok hne [76, 108]).mono ?_
  rintro e w2 ⟨u, L, rfl, hL, hcan, hset, hlen, hb2⟩
  have hfin : PSetSaid Φ 3 [76, 111, 119, 101, 114] 0 w (.returned (.tuple #[u, .int .i64 0])) w2 := pset_fin (own_base hL HB1.out.size) hcan (fun r => by rw [hset r]; unfold propSet; rw [if_neg (by decide), if_neg (by decide), if_neg (by decide), if_neg (by decide), if_neg (by decide), if_pos rfl]) (HB1.out.trans (hb2.mono HB1.out.size))
  obtain ⟨AL, cL, rfl⟩ := own_slice hL
  clear hL hcan hset hb2 hlen
  go_wp2_with fail
  go_ret2
  exact hfin
set_option maxRecDepth 100000 in
theorem setR_upper {w : World} {B b : Nat} {Φ : Files} (h : RefAt w B b Φ) (hfo : FilesOk Φ) (hok : SetsOk Φ) (hne : ∀ x ∈ Φ.cat, fld0 x ≠ []) (l : Sp.Str) (hres : ResR l 3 [85, 112, 112, 101, 114] 0) :
    Calls Tryz.prog 13 #[.pointer (some ⟨b, 0, none⟩), .string ⟨l.toArray⟩] w (PSetSaid Φ 3 [85, 112, 112, 101, 114] 0 w) := by
  have HT := Lib.hid h
  have HRs := Lib.hid hres

  clear hres h
  go_enter Tryz.func13, Tryz.ntmps13
  go_wp2_with fail
  refine (HRs.out w).mono ?_
  rintro e w1 ⟨rfl, hb1⟩
  have HB1 := Lib.hid hb1
  have HT1 := Lib.hid (HT.out.below hb1)
  clear hb1 HT HRs

  go_wp2_with fail
  refine (categoryR_set HT1.out hfo hok hne [76, 117]).mono ?_
  rintro e w2 ⟨u, L, rfl, hL, hcan, hset, hlen, hb2⟩
  have hfin : PSetSaid Φ 3 [85, 112, 112, 101, 114] 0 w (.returned (.tuple #[u, .int .i64 0])) w2 := pset_fin (own_base hL HB1.out.size) hcan (fun r => by rw [hset r]; unfold propSet; rw [if_neg (by decide), if_neg (by decide), if_neg (by decide), if_neg (by decide), if_neg (by decide), if_neg (by decide), if_pos rfl]) (HB1.out.trans (hb2.mono HB1.out.size))
  obtain ⟨AL, cL, rfl⟩ := own_slice hL
  clear hL hcan hset hb2 hlen
  go_wp2_with fail
  go_ret2
  exact hfin
set_option maxRecDepth 100000 in
theorem setR_space {w : World} {B b : Nat} {Φ : Files} (h : RefAt w B b Φ) (hfo : FilesOk Φ) (hok : SetsOk Φ) (hne : ∀ x ∈ Φ.cat, fld0 x ≠ []) (l : Sp.Str) (hres : ResR l 3 [115, 112, 97, 99, 101] 0) :
    Calls Tryz.prog 13 #[.pointer (some ⟨b, 0, none⟩), .string ⟨l.toArray⟩] w (PSetSaid Φ 3 [115, 112, 97, 99, 101] 0 w) := by
  have HT := Lib.hid h
  have HRs := Lib.hid hres

  clear hres h
  go_enter Tryz.func13, Tryz.ntmps13
  go_wp2_with fail
  refine (HRs.out w).mono ?_
  rintro e w1 ⟨rfl, hb1⟩
  have HB1 := Lib.hid hb1
  have HT1 := Lib.hid (HT.out.below hb1)
  clear hb1 HT HRs

  have hb2 := alloc_below w1 (.cells #[.int .i64 9, .int .i64 13, .int .i64 32, .int .i64 32, .int .i64 133, .int .i64 133, .int .i64 160, .int .i64 160, .int .i64 8232, .int .i64 8233] 37)
  have hrow : (w1.alloc (.cells #[.int .i64 9, .int .i64 13, .int .i64 32, .int .i64 32, .int .i64 133, .int .i64 133, .int .i64 160, .int .i64 160, .int .i64 8232, .int .i64 8233] 37)).ownsRow w1.heap.size 37 2 (.slice (some ⟨w1.heap.size, 0, none⟩) 5 5) 5 (spaceL.flatMap rgCells) := by
    have := World.ownsRow_lit (base := w1.heap.size) (e := 37) (size := 2) w1 #[.int .i64 9, .int .i64 13, .int .i64 32, .int .i64 32, .int .i64 133, .int .i64 133, .int .i64 160, .int .i64 160, .int .i64 8232, .int .i64 8233] 5 (Nat.le_refl _) (by decide) (by rfl)
    exact this
  have hfin : PSetSaid Φ 3 [115, 112, 97, 99, 101] 0 w (.returned (.tuple #[.slice (some ⟨w1.heap.size, 0, none⟩) 5 5, .int .i64 0])) (w1.alloc (.cells #[.int .i64 9, .int .i64 13, .int .i64 32, .int .i64 32, .int .i64 133, .int .i64 133, .int .i64 160, .int .i64 160, .int .i64 8232, .int .i64 8233] 37)) := pset_fin (L := spaceL) (own_base hrow HB1.out.size) ⟨by decide, by decide⟩ (fun r => by unfold propSet; rw [if_neg (by decide), if_neg (by decide), if_neg (by decide), if_neg (by decide), if_neg (by decide), if_neg (by decide), if_neg (by decide), if_pos rfl]) (HB1.out.trans (hb2.mono HB1.out.size))
  clear hb2 hrow
  go_wp2_with fail
  go_ret2
  exact hfin
theorem setR_of {w : World} {B b : Nat} {Φ : Files} (h : RefAt w B b Φ) (hfo : FilesOk Φ) (hok : SetsOk Φ) (hne : ∀ x ∈ Φ.cat, fld0 x ≠ []) (l : Sp.Str) {rs : List (List Sp.Str)} (hns : Sp.namesOk rs = true) {k : Int} {v : Sp.Str} {x : Int} (hkv : Sp.resolve rs l = (k, v, x)) (hres : ResR l k v x) :
    Calls Tryz.prog 13 #[.pointer (some ⟨b, 0, none⟩), .string ⟨l.toArray⟩] w (PSetSaid Φ k v x w) := by
  by_cases hx : x = 0
  · subst hx
    rcases Sp.resolve_six hns hkv with ⟨rfl, _⟩ | ⟨rfl, hv⟩ | ⟨rfl, hv⟩
    · exact setR_cat h hfo hok hne l v hres
    · by_cases hz : v = Zzzz
      · subst hz
        exact setR_zzzz h hfo hok hne l hres
      · exact setR_script h hfo hok hne l v hv hz hres
    · unfold Sp.six at hv
      simp only [List.mem_cons, List.not_mem_nil, or_false] at hv
      rcases hv with rfl | rfl | rfl | rfl | rfl | rfl
      · exact setR_any h hfo hok hne l hres
      · exact setR_ascii h hfo hok hne l hres
      · exact setR_alpha h hfo hok hne l hres
      · exact setR_lower h hfo hok hne l hres
      · exact setR_upper h hfo hok hne l hres
      · exact setR_space h hfo hok hne l hres
  · exact setR_err h hfo hok hne l k v x hx hres
theorem resR_of (l : Sp.Str) (hl : l.length ≤ 2000000) : ResR l (Sp.resolve names l).1 (Sp.resolve names l).2.1 (Sp.resolve names l).2.2 := fun w => (resolve_ref l hl w).mono fun e w' h => h
/-- rubricatorref06.Set of any text. -/
theorem setR_walk {w : World} {B b : Nat} (h : RefAt w B b files) (l : Sp.Str) (hl : l.length ≤ 2000000) :
    Calls Tryz.prog 13 #[.pointer (some ⟨b, 0, none⟩), .string ⟨l.toArray⟩] w (PSetSaid files (Sp.resolve names l).1 (Sp.resolve names l).2.1 (Sp.resolve names l).2.2 w) :=
  setR_of h files_ok sets_ok files_cat l names_ok rfl (resR_of l hl)
end Go.Proofs.YtchkckfadennhaaGreatDoor
