/- rubricatorref02: Parse, of a text that has no line that can't be. -/
import Derived.Test.YtpmbebofinlmmaaGreatDoorRef2D
namespace Go.Proofs.YtpmbebofinlmmaaGreatDoor
open Go.RowKit
set_option linter.unusedVariables false
set_option linter.unusedSimpArgs false

def LeftR (ps : List Sp.Str) (k : Nat) (recs rs : List Rec) : Prop := ∃ rest, RSp.parseGo (ps.drop k) = some rest ∧ recs = rs ++ rest
theorem LeftR.skip {ps : List Sp.Str} {k : Nat} {recs rs : List Rec} (h : LeftR ps k recs rs) (hk : k < ps.length) (hf : RSp.fields ps[k] = []) : LeftR ps (k + 1) recs rs := by
  obtain ⟨rest, h1, h2⟩ := h
  rw [List.drop_eq_getElem_cons hk, RSp.parseGo, if_pos hf] at h1
  exact ⟨rest, h1, h2⟩
theorem LeftR.take {ps : List Sp.Str} {k : Nat} {recs rs : List Rec} (h : LeftR ps k recs rs) (hk : k < ps.length) (hf : RSp.fields ps[k] ≠ []) : ∃ r, RSp.record (RSp.fields ps[k]) = some r ∧ LeftR ps (k + 1) recs (rs ++ [r]) := by
  obtain ⟨rest, h1, h2⟩ := h
  rw [List.drop_eq_getElem_cons hk, RSp.parseGo, if_neg hf] at h1
  cases hr : RSp.record (RSp.fields ps[k]) with
  | none => rw [hr] at h1; simp at h1
  | some r =>
    rw [hr] at h1
    simp only [Option.map_eq_some_iff] at h1
    obtain ⟨rest', h3, rfl⟩ := h1
    exact ⟨r, rfl, rest', h3, by rw [h2]; simp⟩
theorem LeftR.done {ps : List Sp.Str} {recs rs : List Rec} (h : LeftR ps ps.length recs rs) : recs = rs := by
  obtain ⟨rest, h1, h2⟩ := h
  rw [List.drop_of_length_le (Nat.le_refl _)] at h1
  simp [RSp.parseGo] at h1
  simp [h2, h1]
set_option maxRecDepth 100000 in
set_option maxHeartbeats 3200000 in
theorem parse_ref (l : Sp.Str) (recs : List Rec) (w : World) (hl : l.length < 1000000) (hp : RSp.parse l = some recs) : Calls Tryz.prog 109 #[.string ⟨l.toArray⟩] w (ParseSaid recs w) := by
  have HC := Lib.hid (fun w => cut_ref l 10 w hl)
  have hne := RSp.cut_ne l 10
  have hlen := RSp.cut_len l 10
  have hmem := fun p hp => (RSp.cut_mem l 10 p hp).1
  have hleft : LeftR (RSp.cut l 10) 0 recs [] := ⟨recs, by rw [List.drop_zero]; exact hp, rfl⟩
  generalize RSp.cut l 10 = ps at *
  have HM := Lib.hid hmem
  have Hleft := Lib.hid hleft
  have hps : ps.length ≤ 1000000 := by omega
  clear hp hmem hleft
  go_enter Tryz.func109, Tryz.ntmps109
  go_wp2_with fail
  refine (HC.out _).mono ?_
  rintro e w1 ⟨v0, rfl, hr0, hb1⟩
  obtain ⟨g0, cap0, rfl, hg1, hg2, _, _⟩ := own_form hr0 (List.length_pos_iff.2 hne)
  have HR0 := Lib.hid hr0
  have HB1 := Lib.hid hb1
  have hown1 : RecsAt w1 w1.heap.size (.slice none 0 0) [] [] := ⟨rfl, World.ownsRow_nil _ _ _ _, fun i r u h => by simp at h⟩
  clear hr0 hb1 HC hne
  go_wp2_with fail
  go_loopw [5, 14] (fun v i wr => ∃ (k : Nat) (rs : List Rec) (fv : List Value), k ≤ ps.length ∧ i = .int .i64 k ∧ Hid (RecsAt wr w1.heap.size v rs fv) ∧ Hid (LeftR ps k recs rs) ∧ rs.length ≤ k ∧ Hid (Below w1.heap.size w1 wr)) (fun _ i _ => ps.length - (intOf i).toNat)
  case atStart => exact ⟨0, [], [], by omega, rfl, hown1, Hleft, by simp, Below.refl _ _⟩
  case round =>
    obtain ⟨k, rs, fv, hk, rfl, HR, HL, hrl, HB⟩ := hrel
    clear hown1 Hleft
    by_cases hlt : k < ps.length
    · have hc : wr.cell? ⟨g0, k, none⟩ = some (.string ⟨ps[k].toArray⟩) := cell_later HB.out (row_get HR0.out k hlt)
      have hpk := HM.out ps[k] (List.getElem_mem _)
      have HF := Lib.hid (fun w => fields_ref ps[k] w (by omega))
      have hfl := RSp.fields_len ps[k]
      have hskip := fun hf => HL.out.skip hlt hf
      have htake := fun hf => HL.out.take hlt hf
      have hmem : ∀ f ∈ RSp.fields ps[k], f.length < 1000000 := fun f hf => by
        have := (RSp.fields_mem ps[k] f hf).1
        omega
      generalize ps[k] = p at *
      have Hskip := Lib.hid hskip
      have Htake := Lib.hid htake
      have Hmem := Lib.hid hmem
      clear hskip htake hmem HL
      go_wp2_with fail
      refine (HF.out _).mono ?_
      rintro e w2 ⟨vf, rfl, hown2, hb2⟩
      have HR2 := Lib.hid (HR.out.below hb2)
      have HB2 := Lib.hid (HB.out.trans (hb2.mono HB.out.size))
      clear hb2 hc HF HR HB
      by_cases hf : RSp.fields p = []
      · have HL2 := Lib.hid (Hskip.out hf)
        obtain ⟨Af, cf, rfl⟩ := own_slice hown2
        have h0 : (((RSp.fields p).length : Nat) : Int) = 0 := by rw [hf]; rfl
        have c1 : ((((RSp.fields p).length : Nat) : Int) == 0) = true := by rw [h0]; rfl
        clear hown2 Hskip Htake Hmem hf h0
        generalize (RSp.fields p).length = nf at *
        go_wp2_with fail
        go_roundw
        case rel => exact ⟨k + 1, rs, fv, by omega, by go_num, HR2, HL2, by omega, HB2⟩
        case measure => simp [intOf]; omega
      · obtain ⟨r, hrec, hL2⟩ := Htake.out hf
        have HL2 := Lib.hid hL2
        have Hrec := Lib.hid hrec
        have hf0 : 0 < (RSp.fields p).length := List.length_pos_iff.2 hf
        have hfs : (RSp.fields p).length * 16 ≤ 140737488355328 := by omega
        obtain ⟨g2, c2, rfl, _, _, _, _⟩ := own_form hown2 hf0
        have HRW := Lib.hid (record_ref _ _ _ w2 hown2 hfs Hmem.out)
        have c1 : ((((RSp.fields p).length : Nat) : Int) == 0) = false := by rw [beq_eq_false_iff_ne]; omega
        clear Hskip Htake Hmem hown2 hf hL2 hrec hfl hfs
        generalize (RSp.fields p).length = nf at *
        go_wp2_with fail
        refine HRW.out.mono ?_
        rintro e w3 ⟨hb3, hsaid⟩
        rw [Hrec.out] at hsaid
        obtain ⟨vr, rfl, hvr⟩ := hsaid
        obtain ⟨Ar, cr, rfl⟩ := own_slice hvr
        have hR3 := HR2.out.below hb3
        have hb3' := HB2.out.trans (hb3.mono HB2.out.size)
        obtain ⟨X, hX⟩ : ∃ X, X = Obj.cells #[Value.int IntKind.i64 r.lo, Value.int IntKind.i64 r.hi, Value.slice Ar r.fields.length cr] 81 := ⟨_, rfl⟩
        have hR4 : RecsAt (w3.alloc X) w1.heap.size u5 rs fv := hR3.below ((Below.refl _ _).alloc (Nat.le_refl _) X)
        have hvr4 : (w3.alloc X).ownsRow w1.heap.size 9 1 (Value.slice Ar r.fields.length cr) r.fields.length (strVs r.fields) := (own_base hvr HB2.out.size).alloc X
        have hb4 : Below w1.heap.size w1 (w3.alloc X) := hb3'.alloc hb3'.size X
        have hbytes : (rs.length + 1) * 40 ≤ 140737488355328 := by omega
        rw [hX] at hR4 hvr4 hb4
        have HR4 := Lib.hid hR4
        have Hvr4 := Lib.hid hvr4
        have Hb4 := Lib.hid hb4
        clear hX hR4 hvr4 hb4 hvr hR3 hb3' hb3 HRW HR2 HB2
        go_wp2_with (at_builtin; refine wp_append_lit slRec rfl (.tmp 33) (.tmp 35) rfl w1.heap.size u5 rs.length (recCells rs fv) rfl (by exact HR4.out.row) #[.int .i64 r.lo, .int .i64 r.hi, .slice Ar r.fields.length cr] (by rw [size_new]; rfl) rfl (by simp [Value.oneCell']) hbytes (by exact Hb4.out.size) ?_; intro v5 w5 hown5 hg5; have HR5 := Lib.hid (RecsAt.snoc HR4.out Hvr4.out hown5 hg5); have HB5 := Lib.hid (Hb4.out.grown hg5 Hb4.out.size (fun k hk => (own_lt HR4.out.row k hk).1)); clear hown5 hg5)
        go_roundw
        case rel => exact ⟨k + 1, rs ++ [r], _, by omega, by go_num, HR5, HL2, by simp; omega, HB5⟩
        case measure => simp [intOf]; omega
    · obtain rfl : k = ps.length := by omega
      have hrs := HL.out.done
      have hfin : ParseSaid recs w (.returned (.tuple #[u5, .int .i64 0, .int .i64 0])) wr := by
        subst hrs
        exact ⟨u5, fv, rfl, ⟨HR.out.len, own_base HR.out.row HB1.out.size, fun i r u h1 h2 => own_base (HR.out.fld i r u h1 h2) HB1.out.size⟩, HB1.out.trans (HB.out.mono HB1.out.size)⟩
      clear HR HL HB hrs hlt hk
      go_wp2_with fail
      first
        | (go_ret3; exact hfin)
        | (rw [Exit.noGoto_ret]; go_ret3; exact hfin)
end Go.Proofs.YtpmbebofinlmmaaGreatDoor
