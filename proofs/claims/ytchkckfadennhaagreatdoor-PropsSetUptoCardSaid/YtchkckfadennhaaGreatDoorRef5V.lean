/- The reference's names: rubricatorref02.Rows, rubricatorref05.value, Resolve. -/
import Derived.Test.YtchkckfadennhaaGreatDoorRef5W
import Derived.Test.YtchkckfadennhaaGreatDoorResW
import Derived.Test.YtchkckfadennhaaGreatDoorRef2M
namespace Go.Proofs.YtchkckfadennhaaGreatDoor
open Go.RowKit
set_option linter.unusedVariables false
set_option linter.unusedSimpArgs false

def rowsBy (F : Sp.Str → List Sp.Str) (ls : List Sp.Str) : List (List Sp.Str) := (ls.map F).filter fun f => !f.isEmpty
theorem rowsBy_snoc (F : Sp.Str → List Sp.Str) (ls : List Sp.Str) (l : Sp.Str) : rowsBy F (ls ++ [l]) = rowsBy F ls ++ (if F l = [] then [] else [F l]) := by
  unfold rowsBy
  rw [List.map_append, List.filter_append]
  congr 1
  by_cases h : F l = []
  · rw [if_pos h]; simp [h]
  · rw [if_neg h]; simp [h]
theorem rowsBy_len (F : Sp.Str → List Sp.Str) (ls : List Sp.Str) : (rowsBy F ls).length ≤ ls.length := Nat.le_trans (List.length_filter_le _ _) (by simp)
set_option maxRecDepth 100000 in
set_option maxHeartbeats 1600000 in
theorem rows_ref (l : Sp.Str) (w : World) (hl : l.length < 1000000) : Calls Tryz.prog 93 #[.string ⟨l.toArray⟩] w (RowsSaid (rowsBy RSp.fields (RSp.cut l 10)) w) := by
  have HC := Lib.hid (fun w => cut_ref l 10 w hl)
  have hne := RSp.cut_ne l 10
  have hlen := RSp.cut_len l 10
  have hmem := fun p hp => (RSp.cut_mem l 10 p hp).1
  generalize RSp.cut l 10 = ps at *
  have HM := Lib.hid hmem
  have hps : ps.length ≤ 1000000 := by omega
  clear hmem
  go_enter Tryz.func93, Tryz.ntmps93
  go_wp2_with fail
  refine (HC.out _).mono ?_
  rintro e w1 ⟨v0, rfl, hr0, hb1⟩
  obtain ⟨g0, cap0, rfl, hg1, hg2, _, _⟩ := own_form hr0 (List.length_pos_iff.2 hne)
  have HR0 := Lib.hid hr0
  have HB1 := Lib.hid hb1
  clear hr0 hb1 HC hne
  go_wp2_with fail
  go_loopw [3, 10] (fun v i wr => ∃ (k : Nat) (us : List Value), k ≤ ps.length ∧ i = .int .i64 k ∧ Hid (NamesAt wr w1.heap.size v (rowsBy RSp.fields (ps.take k)) us) ∧ Hid (Below w1.heap.size w1 wr)) (fun _ i _ => ps.length - (intOf i).toNat)
  case atStart => exact ⟨0, [], by omega, rfl, ⟨rfl, World.ownsRow_nil _ _ _ _, fun i r u h => by simp [rowsBy] at h⟩, Below.refl _ _⟩
  case round =>
    obtain ⟨k, us, hk, rfl, HR, HB⟩ := hrel
    by_cases hlt : k < ps.length
    · have hc : wr.cell? ⟨g0, k, none⟩ = some (.string ⟨ps[k].toArray⟩) := cell_later HB.out (row_get HR0.out k hlt)
      have hpk := HM.out ps[k] (List.getElem_mem _)
      have HF := Lib.hid (fun w => fields_ref ps[k] w (by omega))
      have hfl := RSp.fields_len ps[k]
      have Hsn := Lib.hid (show rowsBy RSp.fields (ps.take (k + 1)) = rowsBy RSp.fields (ps.take k) ++ (if RSp.fields ps[k] = [] then [] else [RSp.fields ps[k]]) by rw [List.take_succ_eq_append_getElem hlt, rowsBy_snoc])
      have hrl := rowsBy_len RSp.fields (ps.take k)
      rw [List.length_take] at hrl
      generalize rowsBy RSp.fields (ps.take k) = fs at *
      generalize ps[k] = p at *
      go_wp2_with fail
      refine (HF.out _).mono ?_
      rintro e w2 ⟨vf, rfl, hown2, hb2⟩
      have HR2 := Lib.hid (HR.out.below hb2)
      have HB2 := Lib.hid (HB.out.trans (hb2.mono HB.out.size))
      have hB2s := HB.out.size
      clear hb2 hc HF HR HB
      by_cases hf : RSp.fields p = []
      · have Hs2 := Lib.hid (show rowsBy RSp.fields (ps.take (k + 1)) = fs by rw [Hsn.out, if_pos hf, List.append_nil])
        obtain ⟨Af, cf, rfl⟩ := own_slice hown2
        have h0 : (RSp.fields p).length = 0 := by rw [hf]; rfl
        rw [h0]
        clear hown2 hf h0 Hsn
        go_wp2_with fail
        go_roundw
        case rel => exact ⟨k + 1, us, by omega, by go_num, (by show NamesAt _ _ _ _ _; rw [Hs2.out]; exact HR2.out), HB2⟩
        case measure => simp [intOf]; omega
      · have Hs2 := Lib.hid (show rowsBy RSp.fields (ps.take (k + 1)) = fs ++ [RSp.fields p] by rw [Hsn.out, if_neg hf])
        have hf0 : 0 < (RSp.fields p).length := List.length_pos_iff.2 hf
        obtain ⟨g2, c2, rfl, _, _, _, _⟩ := own_form hown2 hf0
        have HO2 := Lib.hid (own_base hown2 hB2s)
        have hbt : (fs.length + 1) * 24 ≤ 140737488355328 := by omega
        have d1 : decide ((((RSp.fields p).length : Nat) : Int) > 0) = true := decide_eq_true (by omega)
        have d2 : decide ((0 : Int) < (((RSp.fields p).length : Nat) : Int)) = true := decide_eq_true (by omega)
        generalize RSp.fields p = f at *
        clear hown2 hf Hsn
        generalize hnf : f.length = nf at *
        have Hnf := Lib.hid hnf
        clear hnf
        go_wp2_with (at_builtin; refine wp_append_new slStrs rfl (.tmp 19) (.tmp 21) rfl w1.heap.size u3 _ _ rfl (by exact HR2.out.row) #[.slice (some ⟨g2, 0, none⟩) nf c2] rfl rfl (by simp [Value.oneCell']) (by exact hbt) (by exact HB2.out.size) ?_; intro v5 w5 hown5 hg5; have HB5 := Lib.hid (HB2.out.grown hg5 HB2.out.size (fun k hk => (own_lt HR2.out.row k hk).1)); have HR5 := Lib.hid (NamesAt.snoc HR2.out (f := f) (by rw [Hnf.out]; exact HO2.out) hown5 hg5); clear hg5 hown5)
        go_roundw
        case rel => exact ⟨k + 1, _, by omega, by go_num, (by show NamesAt _ _ _ _ _; rw [Hs2.out]; exact HR5.out), HB5⟩
        case measure => simp [intOf]; omega
    · obtain rfl : k = ps.length := by omega
      have hfin : RowsSaid (rowsBy RSp.fields ps) w (.returned u3) wr := by
        have h1 := HR.out
        rw [List.take_length] at h1
        exact ⟨u3, us, rfl, ⟨h1.len, own_base h1.row HB1.out.size, fun i r u h2 h3 => own_base (h1.fld i r u h2 h3) HB1.out.size⟩, HB1.out.trans (HB.out.mono HB1.out.size)⟩
      clear HR HB hlt hk
      go_wp2_with fail
      go_ret
      exact hfin
set_option maxRecDepth 100000 in
theorem names_ref0 : rowsBy RSp.fields (RSp.cut (textOf Tryz.f77).data.toList 10) = Sp.rows (textOf Tryz.f77).data.toList := by kernel_rfl
theorem rows_names (w : World) : Calls Tryz.prog 93 #[.string (textOf Tryz.f77)] w (RowsSaid names w) := by
  have h := rows_ref (textOf Tryz.f77).data.toList w (by
    have := of_decide_eq_true good_aliases
    rw [← blen] at this
    exact this)
  rw [names_ref0] at h
  exact h
def ValSaid (rs : List (List Sp.Str)) (kind s : Sp.Str) (w : World) (e : Ending) (w' : World) : Prop := e = .returned (.string ⟨((Sp.fnd rs kind s).getD []).toArray⟩) ∧ Below w.heap.size w w'
set_option maxRecDepth 100000 in
set_option maxHeartbeats 1600000 in
theorem value_of {rs : List (List Sp.Str)} (hrw : ∀ w, Calls Tryz.prog 93 #[.string (textOf Tryz.f77)] w (RowsSaid rs w)) (hn1 : rs.length ≤ 1000) (hn2 : ∀ f ∈ rs, ∀ x ∈ f, x.length ≤ 1000) (h3 : ∀ f ∈ rs, ∃ a b c, f = [a, b, c] ∧ b ≠ [])
    (kind s : Sp.Str) (w : World) (hs : s.length ≤ 2000000) : Calls Tryz.prog 66 #[.string ⟨kind.toArray⟩, .string ⟨s.toArray⟩] w (ValSaid rs kind s w) := by
  have HL := Lib.hid (fun (l : Sp.Str) (hl : l.length ≤ 2000000) (w : World) => loose_ref l w hl)
  have HRw := Lib.hid hrw
  have Hlen := Lib.hid hn2
  have H3 := Lib.hid h3
  have HS := Lib.hid (show ∀ (w' : World) (o : Option Sp.Str), o = Sp.fnd rs kind s → Below w.heap.size w w' → ValSaid rs kind s w (.returned (.string ⟨(o.getD []).toArray⟩)) w' from fun w' o ho hb => ⟨by rw [ho], hb⟩)
  have Hat := Lib.hid (fun (k : Nat) (hk : k < rs.length) (h0 : ∀ j (hj : j < k), Sp.hits kind s (rs[j]'(by omega)) = false) (h1 : Sp.hits kind s rs[k] = true) => fnd_at hk h0 h1)
  have Hno := Lib.hid (fun (h0 : ∀ j (hj : j < rs.length), Sp.hits kind s rs[j] = false) => fnd_none h0)
  have HLs := Lib.hid (fun w => HL.out s hs w)
  clear h3 hrw hn2
  go_enter Tryz.func66, Tryz.ntmps66
  go_wp2_with fail
  refine (aliases_calls w).mono ?_
  rintro e w1' ⟨rfl, rfl⟩
  go_wp2_with fail
  refine (HRw.out w).mono ?_
  rintro e w2 ⟨v, us, rfl, hN, hb2⟩
  have HN := Lib.hid hN
  have HB2 := Lib.hid hb2
  have hul : rs.length = us.length := hN.len
  obtain ⟨A, cp, rfl⟩ := own_slice hN.row
  clear hN hb2 HRw
  go_wp2_with fail
  go_loopw [10] (fun i wr => ∃ k : Nat, k ≤ rs.length ∧ i = .int .i64 k ∧ Hid (∀ j (hj : j < k) (hl : j < rs.length), Sp.hits kind s (rs[j]'hl) = false) ∧ Hid (Below w2.heap.size w2 wr)) (fun i _ => rs.length - (intOf i).toNat)
  case atStart => exact ⟨0, by omega, rfl, (fun j hj => absurd hj (by omega)), Below.refl _ _⟩
  case round =>
    obtain ⟨k, hk, rfl, HZ, HB⟩ := hrel
    by_cases hlt : k < rs.length
    · obtain ⟨f, hf⟩ : ∃ f, f = rs[k] := ⟨_, rfl⟩
      obtain ⟨u, hu⟩ : ∃ u, u = us[k]'(by omega) := ⟨_, rfl⟩
      have hmem : f ∈ rs := by rw [hf]; exact List.getElem_mem _
      have HNk := Lib.hid (HN.out.below HB.out)
      have ho := HNk.out.fld k f u (by rw [hf]; exact List.getElem?_eq_getElem _) (by rw [hu]; exact List.getElem?_eq_getElem _)
      obtain ⟨g, cp', e0, _, hgl2, _, _⟩ := own_form HN.out.row (by omega)
      injection e0 with e1 e2 e3
      subst e1 e3
      have hcu := own_cell HNk.out.row k u (by rw [hu]; exact List.getElem?_eq_getElem _)
      obtain ⟨a, b, c, rfl, hb0⟩ := H3.out f hmem
      obtain ⟨gu, cu, rfl, _, hgl, hcu3, _⟩ := own_form ho (by show 0 < 3; decide)
      change 3 ≤ cu at hcu3
      have ca : wr.cell? ⟨gu, 0, none⟩ = some (.string ⟨a.toArray⟩) := own_cell ho 0 _ rfl
      have cb : wr.cell? ⟨gu, 1, none⟩ = some (.string ⟨b.toArray⟩) := own_cell ho 1 _ rfl
      have cc : wr.cell? ⟨gu, 2, none⟩ = some (.string ⟨c.toArray⟩) := own_cell ho 2 _ rfl
      have hlb := Hlen.out _ hmem b (by simp)
      have hlc := Hlen.out _ hmem c (by simp)
      have Hk := Lib.hid (show Sp.hits kind s rs[k] = (a == kind && (Sp.loose b == Sp.loose s || Sp.loose c == Sp.loose s)) by rw [← hf, hits3])
      have Hf1 := Lib.hid (show Sp.f1 rs[k] = b by rw [← hf]; rfl)
      change wr.cell? ⟨g, k, none⟩ = some (.slice (some ⟨gu, 0, none⟩) 3 cu) at hcu
      have HZs := Lib.hid (fun (h : Sp.hits kind s rs[k] = false) (j : Nat) (hj : j < k + 1) (hl : j < rs.length) => show Sp.hits kind s (rs[j]'hl) = false by
        by_cases hj2 : j < k
        · exact HZ.out j hj2 hl
        · obtain rfl : j = k := by omega
          exact h)
      have HZh := Lib.hid (fun (h : Sp.hits kind s rs[k] = true) => (Hat.out k hlt (fun j hj => HZ.out j hj (by omega)) h).trans (congrArg some Hf1.out))
      have HLb := Lib.hid (fun w => HL.out b (by omega) w)
      have HLc := Lib.hid (fun w => HL.out c (by omega) w)
      clear hf hu hmem ho hb0 HZ HNk
      by_cases ha : a = kind
      · have e4 : (a == kind) = true := beq_iff_eq.2 ha
        rw [e4, Bool.true_and] at Hk
        generalize hlob : Sp.loose b = lb at *
        generalize hloc : Sp.loose c = lc at *
        generalize hlos : Sp.loose s = ls at *
        clear hlob hloc hlos
        go_wp2_with fail
        refine (HLb.out wr).mono ?_
        rintro e w3 ⟨rfl, hb3⟩
        have HB3 := Lib.hid (HB.out.trans (hb3.mono HB.out.size))
        have cb3 := cell_later hb3 cb
        have cc3 := cell_later hb3 cc
        clear hb3 ca cb cc hcu
        go_wp2_with fail
        refine (HLs.out w3).mono ?_
        rintro e w4 ⟨rfl, hb4⟩
        have HB4 := Lib.hid (HB3.out.trans (hb4.mono HB3.out.size))
        have cb4 := cell_later hb4 cb3
        have cc4 := cell_later hb4 cc3
        clear hb4 cb3 cc3
        by_cases hh : lb = ls
        · have e6 : (lb == ls) = true := beq_iff_eq.2 hh
          have hfin := HS.out w4 (some b) (HZh.out (by rw [Hk.out, e6]; rfl)).symm (HB2.out.trans (HB4.out.mono HB2.out.size))
          clear HZs HZh Hk hh
          go_wp2_with fail
          go_ret
          exact hfin
        · have e6 : (lb == ls) = false := beq_eq_false_iff_ne.2 hh
          go_wp2_with fail
          refine (HLc.out w4).mono ?_
          rintro e w5 ⟨rfl, hb5⟩
          have HB5 := Lib.hid (HB4.out.trans (hb5.mono HB4.out.size))
          have cb5 := cell_later hb5 cb4
          clear hb5 cb4 cc4
          go_wp2_with fail
          refine (HLs.out w5).mono ?_
          rintro e w6 ⟨rfl, hb6⟩
          have HB6 := Lib.hid (HB5.out.trans (hb6.mono HB5.out.size))
          have cb6 := cell_later hb6 cb5
          clear hb6 cb5
          by_cases hh2 : lc = ls
          · have e7 : (lc == ls) = true := beq_iff_eq.2 hh2
            have hfin := HS.out w6 (some b) (HZh.out (by rw [Hk.out, e6, e7]; rfl)).symm (HB2.out.trans (HB6.out.mono HB2.out.size))
            clear HZs HZh Hk hh hh2
            go_wp2_with fail
            go_ret
            exact hfin
          · have e7 : (lc == ls) = false := beq_eq_false_iff_ne.2 hh2
            have HZ2 := Lib.hid (HZs.out (by rw [Hk.out, e6, e7]; rfl))
            clear HZs HZh Hk hh hh2
            go_wp2_with fail
            go_roundw
            case rel => exact ⟨k + 1, by omega, by go_num, HZ2, HB6⟩
            case measure => simp [intOf]; omega
      · have e4 : (a == kind) = false := beq_eq_false_iff_ne.2 ha
        have HZ2 := Lib.hid (HZs.out (by rw [Hk.out, e4]; rfl))
        clear HZs HZh Hk
        go_wp2_with fail
        go_roundw
        case rel => exact ⟨k + 1, by omega, by go_num, HZ2, HB⟩
        case measure => simp [intOf]; omega
    · obtain rfl : k = rs.length := by omega
      have hno := Hno.out (fun j hj => HZ.out j hj hj)
      have hfin := HS.out wr none hno.symm (HB2.out.trans (HB.out.mono HB2.out.size))
      clear HZ HB hlt hk
      go_wp2_with fail
      go_ret
      exact hfin
theorem value_ref (kind s : Sp.Str) (w : World) (hs : s.length ≤ 2000000) : Calls Tryz.prog 66 #[.string ⟨kind.toArray⟩, .string ⟨s.toArray⟩] w (ValSaid names kind s w) :=
  value_of (fun w => rows_names w) names_len.1 names_len.2 (fun f hf => names_three hf) kind s w hs
set_option maxRecDepth 100000 in
theorem split_int (b : UInt8) : Sp.splitter b = ((b.toNat : Int) == 61 || (b.toNat : Int) == 58) := by
  have h : ∀ m : Fin 256, Sp.splitter (UInt8.ofNat m.val) = ((m.val : Int) == 61 || (m.val : Int) == 58) := by decide
  have := h ⟨b.toNat, b.toNat_lt⟩
  rwa [UInt8.ofNat_toNat] at this
theorem names_one {kind s v : Sp.Str} (h : Sp.fnd names kind s = some v) : v ≠ [] := by
  obtain ⟨f, hf, _, rfl⟩ := Sp.fnd_some h
  obtain ⟨a, b, c, rfl, hb⟩ := names_three hf
  exact hb
set_option maxRecDepth 100000 in
set_option maxHeartbeats 1600000 in
theorem resolve_ref (l : Sp.Str) (hl : l.length ≤ 2000000) (w : World) : Calls Tryz.prog 37 #[.string ⟨l.toArray⟩] w (ResSaid names l w) := by
  have HV := Lib.hid (fun (kind s : Sp.Str) (w : World) (h : s.length ≤ 2000000) => value_ref kind s w h)
  have HFin := Lib.hid (fun (k : Int) (v : Sp.Str) (e : Int) (w' : World) (h : Sp.resolve names l = (k, v, e)) (hb : Below w.heap.size w w') => res_fin h hb)
  have Hone := Lib.hid (fun (kind s v : Sp.Str) (h : Sp.fnd names kind s = some v) => names_one h)
  have HN := Lib.hid (fun n w => number_ref n w)
  have Hat := Lib.hid (fun (k : Nat) (hk : k < l.length) (h0 : ∀ j (hj : j < k), Sp.splitter (l[j]'(by omega)) = false) (h1 : Sp.splitter l[k] = true) => (show Sp.resolve names l = Sp.resolveAt names (l.take k) (l.drop (k + 1)) by
    unfold Sp.resolve
    have : l.findIdx? Sp.splitter = some k := by
      rw [List.findIdx?_eq_some_iff_getElem]
      exact ⟨hk, h1, fun j hj => by rw [h0 j hj]; decide⟩
    rw [this]))
  have Hno := Lib.hid (fun (h0 : ∀ j (hj : j < l.length), Sp.splitter (l[j]'hj) = false) => (show Sp.resolve names l = Sp.resolveIn names l by
    unfold Sp.resolve
    have : l.findIdx? Sp.splitter = none := by
      rw [List.findIdx?_eq_none_iff]
      intro x hx
      obtain ⟨j, hj, rfl⟩ := List.mem_iff_getElem.1 hx
      exact h0 j hj
    rw [this]))
  obtain ⟨S, hS⟩ : ∃ S : ByteArray, S = ⟨l.toArray⟩ := ⟨_, rfl⟩
  have hsz : S.size = l.length := by rw [hS, toB_size]
  have HVl := Lib.hid (fun (kind : Sp.Str) (w : World) => HV.out kind l w hl)
  rw [← hS] at HVl ⊢
  have hbyte := fun (k : Nat) (hk : k < l.length) w => run_byte (P := Tryz.prog) w 9 Tryz.underlying9 l k hk
  have hext1 := fun k => toB_ext l 0 k
  have hext2 := fun k => toB_ext l (k + 1) l.length
  rw [← hS] at hbyte hext1 hext2
  have Hbyte := Lib.hid hbyte
  have Hx1 := Lib.hid hext1
  have Hx2 := Lib.hid hext2
  clear hS hbyte hext1 hext2
  generalize names = rs at *
  go_enter Tryz.func37, Tryz.ntmps37
  go_wp2_with fail
  go_loopw [5] (fun i wr => ∃ k : Nat, k ≤ l.length ∧ i = .int .i64 k ∧ Hid (∀ j (hj : j < k) (hl : j < l.length), Sp.splitter (l[j]'hl) = false) ∧ wr = w) (fun i _ => l.length - (intOf i).toNat)
  case atStart => exact ⟨0, by omega, rfl, (fun j hj => absurd hj (by omega)), rfl⟩
  case round =>
    obtain ⟨k, hk, rfl, HZ, rfl⟩ := hrel
    by_cases hlt : k < l.length
    · have hb1 := Hbyte.out k hlt
      have hg : l.getD k 0 = l[k] := by rw [List.getD_eq_getElem?_getD, List.getElem?_eq_getElem hlt]; rfl
      rw [hg] at hb1
      have hspl := split_int l[k]
      have Hhit := Lib.hid (fun h => Hat.out k hlt (fun j hj => HZ.out j hj (by omega)) h)
      have HZs := Lib.hid (fun (h : Sp.splitter l[k] = false) (j : Nat) (hj : j < k + 1) (hl : j < l.length) => show Sp.splitter (l[j]'hl) = false by
        by_cases hj2 : j < k
        · exact HZ.out j hj2 hl
        · obtain rfl : j = k := by omega
          exact h)
      rw [hspl] at Hhit HZs
      have HV1 := Lib.hid (fun w => HV.out Sp.pr (l.take k) w (by rw [List.length_take]; omega))
      have HV2 := Lib.hid (fun kind w => HV.out kind (l.drop (k + 1)) w (by rw [List.length_drop]; omega))
      have x1 := Hx1.out k
      rw [List.drop_zero] at x1
      have x2 := Hx2.out k
      rw [List.take_length] at x2
      clear hg hspl
      generalize (l[k].toNat : Int) = n at *
      by_cases h61 : n = 61 ∨ n = 58
      · have hres := Hhit.out (by rcases h61 with rfl | rfl <;> rfl)
        have Hres := Lib.hid hres
        clear Hhit HZs hres
        have p1 : IntKind.i64.wrap ((k : Int) + 1) = ((k + 1 : Nat) : Int) := by rw [IntKind.wrap_i64]; omega
        have p2 : (0 : Int) ≤ (k : Int) := by omega
        have p3 : (k : Int) ≤ (l.length : Int) := by omega
        have p4 : (k : Int) + 1 ≤ (l.length : Int) := by omega
        rcases h61 with rfl | rfl
        all_goals
          go_wp2_with fail
          refine (HV1.out wr).mono ?_
          rintro e w1 ⟨rfl, hb1'⟩
          have HB1 := Lib.hid hb1'
          clear hb1'
          cases hk1 : Sp.fnd rs Sp.pr (l.take k) with
          | none =>
            have hfin := HFin.out 0 [] 50 w1 (by rw [Hres.out]; unfold Sp.resolveAt; rw [hk1]) HB1.out
            clear HV1 HV2 Hres hk1
            simp only [Option.getD_none]
            go_wp2_with fail
            go_ret3
            exact hfin
          | some kind =>
            have hne := Hone.out _ _ _ hk1
            have c1 : (kind == ([] : Sp.Str)) = false := beq_eq_false_iff_ne.2 hne
            simp only [Option.getD_some]
            clear HV1 hne
            go_wp2_with fail
            refine (HV2.out kind w1).mono ?_
            rintro e w2 ⟨rfl, hb2'⟩
            have HB2 := Lib.hid (HB1.out.trans (hb2'.mono HB1.out.size))
            clear hb2'
            cases hk2 : Sp.fnd rs kind (l.drop (k + 1)) with
            | none =>
              have hfin := HFin.out 0 [] 51 w2 (by rw [Hres.out]; unfold Sp.resolveAt; rw [hk1]; simp only; rw [hk2]) HB2.out
              clear HV2 Hres hk1 hk2
              simp only [Option.getD_none]
              go_wp2_with fail
              go_ret3
              exact hfin
            | some v =>
              have hne2 := Hone.out _ _ _ hk2
              have c2 : (v == ([] : Sp.Str)) = false := beq_eq_false_iff_ne.2 hne2
              have hfin := HFin.out (Sp.numb kind) v 0 w2 (by rw [Hres.out]; unfold Sp.resolveAt; rw [hk1]; simp only; rw [hk2]) HB2.out
              clear HV2 Hres hk1 hk2 hne2
              simp only [Option.getD_some]
              go_wp2_with fail
              refine (HN.out kind w2).mono ?_
              rintro e w3 ⟨rfl, rfl⟩
              go_wp2_with fail
              go_ret3
              exact hfin
      · have e1 : (n == 61) = false := beq_eq_false_iff_ne.2 (fun h => h61 (.inl h))
        have e2 : (n == 58) = false := beq_eq_false_iff_ne.2 (fun h => h61 (.inr h))
        have e3 : (n != 61) = true := by rw [bne, e1]; rfl
        have e4 : (n != 58) = true := by rw [bne, e2]; rfl
        have HZ2 := Lib.hid (HZs.out (by rw [e1, e2]; rfl))
        clear Hhit HZs h61
        go_wp2_with fail
        go_roundw
        case rel => exact ⟨k + 1, by omega, by go_num, HZ2, by first | rfl | trivial⟩
        case measure => simp [intOf]; omega
    · obtain rfl : k = l.length := by omega
      have hres := Hno.out (fun j hj => HZ.out j hj hj)
      have Hres := Lib.hid hres
      clear hres HZ Hat Hno
      have hba := alloc_below wr (Obj.cells #[Value.string ⟨#[103, 99]⟩, Value.string ⟨#[98, 105]⟩, Value.string ⟨#[115, 99]⟩] 9)
      have hra := row_new wr (Obj.cells #[Value.string ⟨#[103, 99]⟩, Value.string ⟨#[98, 105]⟩, Value.string ⟨#[115, 99]⟩] 9)
      have hsa := size_new wr (Obj.cells #[Value.string ⟨#[103, 99]⟩, Value.string ⟨#[98, 105]⟩, Value.string ⟨#[115, 99]⟩] 9)
      have Hcell := Lib.hid (show ∀ q, q < 3 → ∃ n : Sp.Str, ((q = 0 ∧ n = Sp.gc) ∨ (q = 1 ∧ n = Sp.bi) ∨ (q = 2 ∧ n = Sp.sc)) ∧ (wr.alloc (Obj.cells #[Value.string ⟨#[103, 99]⟩, Value.string ⟨#[98, 105]⟩, Value.string ⟨#[115, 99]⟩] 9)).cell? ⟨wr.heap.size, q, none⟩ = some (.string ⟨n.toArray⟩) from fun q hq => by
        rw [(cells_of_row hra).1 q]
        rcases (show q = 0 ∨ q = 1 ∨ q = 2 by omega) with rfl | rfl | rfl
        · exact ⟨Sp.gc, .inl ⟨rfl, rfl⟩, rfl⟩
        · exact ⟨Sp.bi, .inr (.inl ⟨rfl, rfl⟩), rfl⟩
        · exact ⟨Sp.sc, .inr (.inr ⟨rfl, rfl⟩), rfl⟩)
      have HBa := Lib.hid hba
      generalize hgg : wr.heap.size = gg at *
      have Hsa := Lib.hid (show gg < (wr.alloc (Obj.cells #[Value.string ⟨#[103, 99]⟩, Value.string ⟨#[98, 105]⟩, Value.string ⟨#[115, 99]⟩] 9)).heap.size by omega)
      generalize hva : wr.alloc (Obj.cells #[Value.string ⟨#[103, 99]⟩, Value.string ⟨#[98, 105]⟩, Value.string ⟨#[115, 99]⟩] 9) = Va at *
      have Hgg := Lib.hid hgg
      clear hba hra hsa
      go_wp2_with fail
      try rw [hva]
      try rw [hgg]
      clear hva hgg
      obtain ⟨W0, hW0⟩ : ∃ W0, W0 = wr := ⟨_, rfl⟩
      rw [← hW0] at HFin HBa Hgg
      have HW0 := Lib.hid hW0
      clear hW0
      go_loopw [46] (fun i wr => ∃ q : Nat, q ≤ 3 ∧ i = .int .i64 q ∧ (1 ≤ q → Sp.fnd rs Sp.gc l = none) ∧ (2 ≤ q → Sp.fnd rs Sp.bi l = none) ∧ (3 ≤ q → Sp.fnd rs Sp.sc l = none) ∧ Hid (Below Va.heap.size Va wr)) (fun i _ => 3 - (intOf i).toNat)
      case atStart => exact ⟨0, by omega, rfl, (fun h => absurd h (by omega)), (fun h => absurd h (by omega)), (fun h => absurd h (by omega)), Below.refl _ _⟩
      case round =>
        obtain ⟨q, hq, rfl, h1, h2, h3, HB⟩ := hrel
        have hBt : Below W0.heap.size W0 wr := by rw [Hgg.out]; exact HBa.out.trans (HB.out.mono (Nat.le_of_lt Hsa.out))
        have HBt := Lib.hid hBt
        clear hBt
        by_cases hq3 : q < 3
        · obtain ⟨n, hn, hcl⟩ := Hcell.out q hq3
          have hcl2 := (HB.out.cell (p := ⟨gg, q, none⟩) Hsa.out).trans hcl
          have Hn := Lib.hid hn
          clear hn hcl
          go_wp2_with fail
          refine (HVl.out n wr).mono ?_
          rintro e w2 ⟨rfl, hb2'⟩
          have HB2 := Lib.hid (HBt.out.trans (hb2'.mono HBt.out.size))
          have HB3 := Lib.hid (HB.out.trans (hb2'.mono HB.out.size))
          clear hb2'
          cases hv : Sp.fnd rs n l with
          | none =>
            simp only [Option.getD_none]
            go_wp2_with fail
            go_roundw
            case rel => exact ⟨q + 1, by omega, by go_num, (fun _ => by rcases Hn.out with ⟨_, rfl⟩ | ⟨h, rfl⟩ | ⟨h, rfl⟩ <;> first | exact hv | exact h1 (by omega)), (fun _ => by rcases Hn.out with ⟨h, rfl⟩ | ⟨h, rfl⟩ | ⟨h, rfl⟩ <;> first | exact hv | exact h2 (by omega) | omega), (fun _ => by rcases Hn.out with ⟨h, rfl⟩ | ⟨h, rfl⟩ | ⟨h, rfl⟩ <;> first | exact hv | omega), HB3⟩
            case measure => simp [intOf]; omega
          | some v =>
            have hne := Hone.out _ _ _ hv
            have c1 : (v == ([] : Sp.Str)) = false := beq_eq_false_iff_ne.2 hne
            have c2 : (v != ([] : Sp.Str)) = true := by rw [bne, c1]; rfl
            have hfin := HFin.out (Sp.numb n) v 0 w2 (by
              rw [Hres.out]
              unfold Sp.resolveIn
              rcases Hn.out with ⟨_, rfl⟩ | ⟨h, rfl⟩ | ⟨h, rfl⟩
              · rw [hv]
              · rw [h1 (by omega), hv]
              · rw [h1 (by omega), h2 (by omega), hv]) (by have h := HB2.out; rwa [Hgg.out] at h)
            simp only [Option.getD_some]
            clear hv h1 h2 h3 hne
            go_wp2_with fail
            refine (HN.out n w2).mono ?_
            rintro e w4 ⟨rfl, rfl⟩
            go_wp2_with fail
            go_ret3
            rw [← HW0.out]
            exact hfin
        · obtain rfl : q = 3 := by omega
          have hfin := HFin.out 0 [] 50 wr (by
            rw [Hres.out]
            unfold Sp.resolveIn
            rw [h1 (by omega), h2 (by omega), h3 (by omega)]) (by have h := HBt.out; rwa [Hgg.out] at h)
          clear h1 h2 h3
          go_wp2_with fail
          go_ret3
          rw [← HW0.out]
          exact hfin
end Go.Proofs.YtchkckfadennhaaGreatDoor
