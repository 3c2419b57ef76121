/- A subject's methods Items, Runes, Bytes, After; rubricatorref12: New, After; rubricatorlaw12.both. -/
import Derived.Test.YthoegenipbohmaaGreatDoorItmW
import Derived.Test.YthoegenipbohmaaGreatDoorNormRunesV
namespace Go.Proofs.YthoegenipbohmaaGreatDoor
open Go.RowKit Utf Itm
set_option linter.unusedVariables false
set_option linter.unusedSimpArgs false
theorem ItsV.of_own {w : World} {B : Nat} {v : Value} {xs : List It} (h : ItemsAt w B v xs) : ItsV w v xs := by
  refine ⟨ItsAt.of_own h, ?_⟩
  rcases h.2 with ⟨h0, _⟩ | ⟨g, cap, cur, rfl, hb, hg, hc, _⟩
  · exact .inl h0
  · exact .inr ⟨_, _, _, rfl, hc⟩
section
variable {w : World} {B p : Nat} {bs : List Nat} {L : List It}
theorem tnone_walk (h : TextAt w B p bs L) : Calls Tryz.prog 69 #[.pointer (some ⟨p, 0, none⟩)] w fun e w' => e = .returned (.bool false) ∧ w = w' := by
  obtain ⟨_, _, vb, vl, vn, h2, _⟩ := h
  have c0 := h2.cell 0
  clear h2
  go_enter Tryz.func69, Tryz.ntmps69
  go_wp2_with fail
  go_ret
  exact ⟨rfl, rfl⟩
theorem titems_walk (h : TextAt w B p bs L) (hl : L.length ≤ 100000) : Calls Tryz.prog 30 #[.pointer (some ⟨p, 0, none⟩)] w (ItemsSaid L w) := by
  have HN := Lib.hid (tnone_walk h)
  obtain ⟨_, _, vb, vl, vn, h2, _, h4, _⟩ := h
  have HC := Lib.hid (clonei_walk (ItsV.of_own h4) (by omega))
  have c2 := h2.cell 2
  obtain ⟨Al, cl, rfl⟩ := own_slice h4
  clear h2 h4
  go_enter Tryz.func30, Tryz.ntmps30
  go_wp2_with fail
  refine HN.out.mono ?_
  rintro e w1 ⟨rfl, rfl⟩
  clear HN
  go_wp2_with fail
  refine HC.out.mono ?_
  rintro e w2 ⟨v2, rfl, hv2, hb2⟩
  clear HC
  go_wp2_with fail
  go_ret
  exact ⟨_, rfl, hv2, hb2⟩
theorem tbytes_walk (h : TextAt w B p bs L) (hl : bs.length ≤ 100000) : Calls Tryz.prog 34 #[.pointer (some ⟨p, 0, none⟩)] w (BytesSaid bs w) := by
  have HN := Lib.hid (tnone_walk h)
  obtain ⟨_, h1, vb, vl, vn, h2, h3, _⟩ := h
  have HC := Lib.hid (bclone_walk (BytesAt.of_own h3 h1) (by omega))
  have c1 := h2.cell 1
  obtain ⟨Al, cl, rfl⟩ := own_slice h3
  clear h2 h3
  go_enter Tryz.func34, Tryz.ntmps34
  go_wp2_with fail
  refine HN.out.mono ?_
  rintro e w1 ⟨rfl, rfl⟩
  clear HN
  go_wp2_with fail
  refine HC.out.mono ?_
  rintro e w2 ⟨v2, rfl, hv2, hb2⟩
  clear HC
  go_wp2_with fail
  go_ret
  exact ⟨_, rfl, hv2, hb2⟩
set_option maxRecDepth 100000 in
theorem tafter_walk (h : TextAt w B p bs L) (hl : L.length ≤ 100000) (at_ : Int) : Calls Tryz.prog 28 #[.pointer (some ⟨p, 0, none⟩), .int .i64 at_] w fun e w' => ∃ n, e = .returned (.int .i64 (n : Nat)) ∧ IsAft at_ L n ∧ w = w' := by
  have HN := Lib.hid (tnone_walk h)
  obtain ⟨_, h1, vb, vl, vn, h2, _, h4, _⟩ := h
  have c2 := h2.cell 2
  obtain ⟨Al, cl, rfl⟩ := own_slice h4
  have HV := Lib.hid h4
  clear h2 h4 h1
  go_enter Tryz.func28, Tryz.ntmps28
  go_wp2_with fail
  refine HN.out.mono ?_
  rintro e w1 ⟨rfl, rfl⟩
  clear HN
  go_wp2_with fail
  go_loopw [5] (fun i wr => ∃ k : Nat, k ≤ L.length ∧ i = .int .i64 k ∧ Hid (∀ j, (h : j < L.length) → k ≤ j → at_ ≤ L[j].s) ∧ w = wr) (fun i _ => (intOf i).toNat)
  case atStart => exact ⟨L.length, Nat.le_refl _, rfl, (fun j h1 h2 => by omega), rfl⟩
  case round =>
    obtain ⟨k, hk, rfl, HK, rfl⟩ := hrel
    cases k with
    | zero =>
      have HF := Lib.hid (show IsAft at_ L 0 from ⟨Nat.zero_le _, HK.out, .inl rfl⟩)
      clear HK
      go_wp2_with fail
      go_ret
      exact ⟨0, rfl, HF.out, rfl⟩
    | succ k =>
      have hkl : k < L.length := by omega
      obtain ⟨gl, cap, hv, _⟩ := own_form HV.out (by omega)
      injection hv with hA h0 h1
      subst hA h1
      clear h0
      have cS := own_cell HV.out _ _ (items_get L k hkl).2.1
      obtain ⟨s', hs'⟩ : ∃ s' : Int, s' = L[k].s := ⟨_, rfl⟩
      rw [← hs'] at cS
      have w1 : IntKind.i64.wrap (((k + 1 : Nat) : Int) - 1) = (k : Int) := by rw [IntKind.wrap_i64]; omega
      have w2 : IntKind.i64.wrap ((k : Int) + 1 - 1) = (k : Int) := by rw [IntKind.wrap_i64]; omega
      have w3 : IntKind.i64.wrap (k : Int) = (k : Int) := by rw [IntKind.wrap_i64]; omega
      by_cases hge : at_ ≤ s'
      · have d1 : decide (s' ≥ at_) = true := by rw [decide_eq_true_eq]; exact hge
        have d2 : decide (at_ ≤ s') = true := by rw [decide_eq_true_eq]; exact hge
        have HK2 := Lib.hid (show ∀ j, (h : j < L.length) → k ≤ j → at_ ≤ L[j].s from fun j h1 h2 => by
          rcases Nat.eq_or_lt_of_le h2 with rfl | h3
          · rw [← hs']; exact hge
          · exact HK.out j h1 h3)
        clear HK hs' hge
        go_wp2_with fail
        go_roundw
        case rel => exact ⟨k, by omega, rfl, HK2, by first | rfl | trivial⟩
        case measure => simp [intOf]
      · have d1 : decide (s' ≥ at_) = false := by rw [decide_eq_false_iff_not]; exact hge
        have d2 : decide (at_ ≤ s') = false := by rw [decide_eq_false_iff_not]; exact hge
        have HF := Lib.hid (show IsAft at_ L (k + 1) from ⟨by omega, HK.out, .inr ⟨hkl, by show L[k].s < at_; omega⟩⟩)
        clear HK hs' hge
        go_wp2_with fail
        go_ret
        exact ⟨k + 1, by first | rfl | (congr 1), HF.out, rfl⟩
end
/-- The document's subject. -/
structure RTextAt (w : World) (B q : Nat) (bs : List Nat) (L : List It) : Prop where
  pos : B ≤ q
  byte : ∀ b ∈ bs, b ≤ 255
  ex : ∃ vb vl, Blk w q 61 #[vb, vl] ∧ BytesO w B vb bs ∧ ItemsAt w B vl L
theorem RTextAt.below {w w' : World} {B p : Nat} {bs : List Nat} {L : List It} (h : RTextAt w B p bs L) (hb : Below w.heap.size w w') : RTextAt w' B p bs L := by
  obtain ⟨h1, h0, vb, vl, h2, h3, h4⟩ := h
  exact ⟨h1, h0, vb, vl, h2.below hb, own_below h3 hb, own_below h4 hb⟩
set_option maxRecDepth 100000 in
theorem rnew_walk {w : World} {B b : Nat} {v : Value} {bs : List Nat} (hr : RefAt w B b files) (h : BytesAt w v bs) (hl : bs.length ≤ 1000) (canon : Bool) : Calls Tryz.prog 68 #[.pointer (some ⟨b, 0, none⟩), v, .bool canon] w fun e w' => ∃ q, e = .returned (.pointer (some ⟨q, 0, none⟩)) ∧ RTextAt w' w.heap.size q bs (if canon then nfd files (dec bs 0) else dec bs 0) ∧ Below w.heap.size w w' := by
  have HI := Lib.hid (items08_files hr)
  generalize files = Φ at *
  clear hr
  have HA := Lib.hid h
  obtain ⟨A, c, rfl, hnc, hn9, hA, hb255, hcell⟩ := h
  have HDl := dec_len bs 0
  have HD := Lib.hid (decode01_walk w _ bs HA.out (by omega))
  have H255 := Lib.hid hb255
  have hone : ∀ w', Below w.heap.size w w' → ∀ ad, A = some ad → ∀ j u, (bytz bs)[j]? = some u → (w'.alloc (Obj.cells #[] 5)).cell? (ad.add j) = some u := fun w' hb ad e j u hu => by
    have hj : j < bs.length := by
      have := (List.getElem?_eq_some_iff.1 hu).1
      rwa [bytz_len] at this
    rw [bytz_get bs j hj] at hu
    rw [← hu]
    exact cell_later (alloc_below w' _) (cell_later hb (hcell ad e j hj))
  have HC := Lib.hid hone
  have HAn := Lib.hid hA
  clear hA hcell hb255 hone HA
  go_enter Tryz.func68, Tryz.ntmps68
  go_wp2_with fail
  refine HD.out.mono ?_
  rintro e w1 ⟨vl, rfl, hvl, hb1⟩
  obtain ⟨Al, cl, rfl⟩ := own_slice hvl
  have HV := Lib.hid hvl
  have HB := Lib.hid hb1
  clear hvl hb1 HD
  obtain ⟨D, hD⟩ : ∃ D, D = dec bs 0 := ⟨_, rfl⟩
  rw [← hD] at HV HDl ⊢
  have HDe := Lib.hid hD
  clear hD
  cases canon with
  | true =>
    go_wp2_with fail
    refine (HI.out _ HB.out _ D (ItsAt.of_own HV.out) (by omega)).mono ?_
    rintro e w2 ⟨v2, rfl, hv2, hb2⟩
    have HV2 := Lib.hid (show ItemsAt w2 w.heap.size v2 (nfd Φ D) from own_base hv2 HB.out.size)
    have HB2 := Lib.hid (HB.out.trans (hb2.mono HB.out.size))
    obtain ⟨A2, c2, rfl⟩ := own_slice hv2
    clear hv2 hb2 HV HB HI
    have HO := Lib.hid (own_zero w2 5 w.heap.size HB2.out.size)
    have hba := alloc_below w2 (Obj.cells #[] 5)
    replace HV2 := Lib.hid (show ItemsAt (w2.alloc (Obj.cells #[] 5)) w.heap.size (.slice A2 (nfd Φ D).length c2) (nfd Φ D) from own_below HV2.out hba)
    have HC2 := Lib.hid (HC.out w2 HB2.out)
    replace HB2 := Lib.hid (HB2.out.trans (hba.mono HB2.out.size))
    clear hba HC
    go_wp2_with (at_builtin; refine wp_append_more (w2.alloc (Obj.cells #[] 5)) slByte rfl (.tmp 14) (.tmp 15) rfl w.heap.size _ 0 [] rfl (by exact HO.out) A bs.length c (bytz bs) rfl (by intro h; have := HAn.out h; exact ⟨by omega, by omega⟩) (by rw [bytz_len, Nat.mul_one]) HC2.out (bytz_one bs) (by omega) HB2.out.size ?_; intro v3 w3 hown hg; rw [Nat.zero_add, List.nil_append] at hown; obtain ⟨A3, c3, rfl⟩ := own_slice hown; have HB3 := Lib.hid (HB2.out.grown hg HB2.out.size (fun k hk => (own_lt HO.out k hk).1)); have HV3 := Lib.hid (show ItemsAt w3 w.heap.size (.slice A2 (nfd Φ D).length c2) (nfd Φ D) from HV2.out.kept hg (own_types HV2.out HO.out (by decide))); have HO3 := Lib.hid hown; clear hown hg)
    go_ret
    have hba := alloc_below w3 (Obj.cells #[.slice A3 bs.length c3, .slice A2 (nfd Φ D).length c2] 61)
    refine ⟨w3.heap.size, rfl, ⟨HB3.out.size, H255.out, _, _, row_new _ _, ?_, ?_⟩, HB3.out.trans (hba.mono HB3.out.size)⟩
    · exact own_below HO3.out hba
    · rw [← HDe.out]
      exact own_below HV3.out hba
  | false =>
    have HO := Lib.hid (own_zero w1 5 w.heap.size HB.out.size)
    have hba := alloc_below w1 (Obj.cells #[] 5)
    have HV2 := Lib.hid (show ItemsAt (w1.alloc (Obj.cells #[] 5)) w.heap.size (.slice Al D.length cl) D from own_below HV.out hba)
    have HC2 := Lib.hid (HC.out w1 HB.out)
    have HB2 := Lib.hid (HB.out.trans (hba.mono HB.out.size))
    clear hba HC HV HI
    go_wp2_with (at_builtin; refine wp_append_more (w1.alloc (Obj.cells #[] 5)) slByte rfl (.tmp 14) (.tmp 15) rfl w.heap.size _ 0 [] rfl (by exact HO.out) A bs.length c (bytz bs) rfl (by intro h; have := HAn.out h; exact ⟨by omega, by omega⟩) (by rw [bytz_len, Nat.mul_one]) HC2.out (bytz_one bs) (by omega) HB2.out.size ?_; intro v3 w3 hown hg; rw [Nat.zero_add, List.nil_append] at hown; obtain ⟨A3, c3, rfl⟩ := own_slice hown; have HB3 := Lib.hid (HB2.out.grown hg HB2.out.size (fun k hk => (own_lt HO.out k hk).1)); have HV3 := Lib.hid (show ItemsAt w3 w.heap.size (.slice Al D.length cl) D from HV2.out.kept hg (own_types HV2.out HO.out (by decide))); have HO3 := Lib.hid hown; clear hown hg)
    go_ret
    have hba := alloc_below w3 (Obj.cells #[.slice A3 bs.length c3, .slice Al D.length cl] 61)
    refine ⟨w3.heap.size, rfl, ⟨HB3.out.size, H255.out, _, _, row_new _ _, ?_, ?_⟩, HB3.out.trans (hba.mono HB3.out.size)⟩
    · exact own_below HO3.out hba
    · rw [← HDe.out]
      exact own_below HV3.out hba
end Go.Proofs.YthoegenipbohmaaGreatDoor
