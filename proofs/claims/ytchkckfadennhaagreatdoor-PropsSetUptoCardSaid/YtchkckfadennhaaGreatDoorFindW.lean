/- The names of properties: lines.Rows, names.find. -/
import Derived.Test.YtchkckfadennhaaGreatDoorNamesW
import Derived.WalkSpells
namespace Go.Proofs.YtchkckfadennhaaGreatDoor
open Go.RowKit
set_option linter.unusedVariables false
set_option linter.unusedSimpArgs false

theorem slStrs : SlT Tryz.prog 114 25 1 24 := ⟨Tryz.underlying114, by kernel_rfl, by decide, by decide⟩
/-- v is a row of one's own that holds rows of texts. -/
structure NamesAt (w : World) (B : Nat) (v : Value) (fs : List (List Sp.Str)) (us : List Value) : Prop where
  len : fs.length = us.length
  row : w.ownsRow B 25 1 v fs.length us
  fld : ∀ (i : Nat) f u, fs[i]? = some f → us[i]? = some u → w.ownsRow B 9 1 u f.length (strVs f)
theorem NamesAt.below {w w' : World} {B : Nat} {v : Value} {fs : List (List Sp.Str)} {us : List Value} (h : NamesAt w B v fs us) (hb : Below w.heap.size w w') : NamesAt w' B v fs us :=
  ⟨h.len, own_below h.row hb, fun i r u h1 h2 => own_below (h.fld i r u h1 h2) hb⟩
theorem NamesAt.snoc {w w' : World} {B : Nat} {v v' : Value} {fs : List (List Sp.Str)} {us : List Value} (h : NamesAt w B v fs us) {f : List Sp.Str} {u : Value} (hu : w.ownsRow B 9 1 u f.length (strVs f))
    (hr : w'.ownsRow B 25 1 v' (fs.length + 1) (us ++ [u])) (hg : w.grownBy w' v.ownBlock) : NamesAt w' B v' (fs ++ [f]) (us ++ [u]) := by
  refine ⟨by simp [h.len], by simpa using hr, fun i r' u' h1 h2 => ?_⟩
  have key : ∀ (u : Value) (r : List Sp.Str), w.ownsRow B 9 1 u r.length (strVs r) → w'.ownsRow B 9 1 u r.length (strVs r) := fun u r h' => h'.kept hg (own_types h' h.row (by decide))
  by_cases hi : i < fs.length
  · rw [List.getElem?_append_left hi] at h1
    rw [List.getElem?_append_left (by rw [← h.len]; exact hi)] at h2
    exact key _ _ (h.fld i r' u' h1 h2)
  · have hil : i = fs.length := by
      have := (List.getElem?_eq_some_iff.1 h1).1
      simp at this
      omega
    subst hil
    rw [List.getElem?_append_right (Nat.le_refl _)] at h1
    rw [h.len, List.getElem?_append_right (Nat.le_refl _)] at h2
    simp at h1 h2
    subst h1 h2
    exact key _ _ hu
def RowsSaid (fs : List (List Sp.Str)) (w : World) (e : Ending) (w' : World) : Prop := ∃ v us, e = .returned v ∧ NamesAt w' w.heap.size v fs us ∧ Below w.heap.size w w'
theorem rowsOf_snoc (ls : List Sp.Str) (l : Sp.Str) : Sp.rowsOf (ls ++ [l]) = Sp.rowsOf ls ++ (if Sp.fields l = [] then [] else [Sp.fields l]) := by
  unfold Sp.rowsOf
  rw [List.map_append, List.filter_append]
  congr 1
  by_cases h : Sp.fields l = []
  · rw [if_pos h]; simp [h]
  · rw [if_neg h]
    simp [h]
theorem rowsOf_len (ls : List Sp.Str) : (Sp.rowsOf ls).length ≤ ls.length := by
  unfold Sp.rowsOf
  exact Nat.le_trans (List.length_filter_le _ _) (by simp)
set_option maxRecDepth 100000 in
theorem rows_walk (s : ByteArray) (w : World) (hs : s.size < 1000000) (hE : Env w) :
    Calls Tryz.prog 76 #[.string s] w (RowsSaid (Sp.rows s.data.toList) w) := by
  have hnil := fun (w : World) (A : Option Addr) (n c : Nat) => run_neq_slice_nil_any (P := Tryz.prog) w 25 9 A n c 0 0 Tryz.underlying25
  go_enter Tryz.func76, Tryz.ntmps76
  go_wp2_with fail
  refine (split_one s 10 w (by omega) hE).mono ?_
  rintro e w1 ⟨ps, rfl, hps, hp1, hpn, hpl, hw1⟩
  have hown : w1.ownsRow w.heap.size 9 1 (.slice (some ⟨w.heap.size, 0, none⟩) ps.length ps.length) ps.length (ps.map Value.string) := by
    subst hw1
    have := World.ownsRow_lit (base := w.heap.size) (e := 9) (size := 1) w (ps.map Value.string).toArray ps.length (Nat.le_refl _) (by unfold maxLen; omega) (by simp)
    simpa using this
  have hb1 : Below w.heap.size w w1 := by subst hw1; exact (Below.refl _ _).alloc (Nat.le_refl _) _
  have hE1 := hE.below hb1
  have hw0 : w.heap.size < w1.heap.size := by subst hw1; rw [size_new]; omega
  have Hps := Lib.hid hps
  clear hw1 hE hps
  go_wp2_with fail
  go_loopw [3, 10] (fun v i wr => ∃ (k : Nat) (us : List Value), k ≤ ps.length ∧ i = .int .i64 k ∧ Hid (NamesAt wr w1.heap.size v (Sp.rowsOf ((ps.take k).map (·.data.toList))) us) ∧ Hid (Below w1.heap.size w1 wr)) (fun _ i _ => ps.length - (intOf i).toNat)
  case atStart => exact ⟨0, [], by omega, rfl, ⟨rfl, World.ownsRow_nil _ _ _ _, fun i r u h => by simp [Sp.rowsOf] at h⟩, Below.refl _ _⟩
  case round =>
    obtain ⟨k, us, hk, rfl, HR, HB⟩ := hrel
    by_cases hlt : k < ps.length
    · have hc : wr.cell? ⟨w.heap.size, k, none⟩ = some (.string ps[k]) := (HB.out.cell (p := ⟨_, _, _⟩) (by simpa using hw0)).trans ((hown.cellAt k (by omega)).trans (by simp [hlt]))
      have hEk := hE1.below HB.out
      have hpk := hpl ps[k] (List.getElem_mem _)
      have Hsn := Lib.hid (show Sp.rowsOf ((ps.take (k + 1)).map (·.data.toList)) = Sp.rowsOf ((ps.take k).map (·.data.toList)) ++ (if Sp.fields ps[k].data.toList = [] then [] else [Sp.fields ps[k].data.toList]) by
        rw [List.take_succ_eq_append_getElem hlt, List.map_append, List.map_cons, List.map_nil, rowsOf_snoc])
      have hrl := rowsOf_len ((ps.take k).map (·.data.toList))
      rw [List.length_map, List.length_take] at hrl
      generalize Sp.rowsOf ((ps.take k).map (·.data.toList)) = fs at *
      go_wp2_with fail
      refine (fields_walk ps[k] wr (by omega) hEk).mono ?_
      rintro e w2 ⟨vf, rfl, hown2, hb2, hnilv⟩
      have HR2 := Lib.hid (HR.out.below hb2)
      have HB2 := Lib.hid (HB.out.trans (hb2.mono HB.out.size))
      have hfl := Sp.fields_length ps[k].data.toList
      by_cases hf : Sp.fields ps[k].data.toList = []
      · obtain rfl := hnilv hf
        have Hs2 := Lib.hid (show Sp.rowsOf ((ps.take (k + 1)).map (·.data.toList)) = fs by rw [Hsn.out, if_pos hf, List.append_nil])
        clear HR HB hb2 hc hEk hnilv hown2 hf hpk Hsn hfl
        go_wp2_with fail
        go_roundw
        case rel => exact ⟨k + 1, us, by omega, by go_num, (by show NamesAt _ _ _ _ _; rw [Hs2.out]; exact HR2.out), HB2⟩
        case measure => simp [intOf]; omega
      · have Hs2 := Lib.hid (show Sp.rowsOf ((ps.take (k + 1)).map (·.data.toList)) = fs ++ [Sp.fields ps[k].data.toList] by rw [Hsn.out, if_neg hf])
        have hf0 : 0 < (Sp.fields ps[k].data.toList).length := List.length_pos_iff.2 hf
        obtain ⟨g2, c2, rfl, _, _, _, _⟩ := own_form hown2 hf0
        have HO2 := Lib.hid (own_base hown2 HB.out.size)
        have hbt : (fs.length + 1) * 24 ≤ 140737488355328 := by omega
        generalize Sp.fields ps[k].data.toList = f at *
        clear HR HB hb2 hc hEk hnilv hown2 hf hpk Hsn hfl
        generalize hnf : f.length = nf at *
        have Hnf := Lib.hid hnf
        clear hnf
        go_wp2_with (at_builtin; refine wp_append_new slStrs rfl (.tmp 18) (.tmp 20) rfl w1.heap.size u3 _ _ rfl (by exact HR2.out.row) #[.slice (some ⟨g2, 0, none⟩) nf c2] rfl rfl (by simp [Value.oneCell']) (by exact hbt) (by exact HB2.out.size) ?_; intro v5 w5 hown5 hg5; have HB5 := Lib.hid (HB2.out.grown hg5 HB2.out.size (fun k hk => (own_lt HR2.out.row k hk).1)); have HR5 := Lib.hid (NamesAt.snoc HR2.out (f := f) (by rw [Hnf.out]; exact HO2.out) hown5 hg5); clear hg5 hown5)
        go_roundw
        case rel => exact ⟨k + 1, _, by omega, by go_num, (by show NamesAt _ _ _ _ _; rw [Hs2.out]; exact HR5.out), HB5⟩
        case measure => simp [intOf]; omega
    · obtain rfl : k = ps.length := by omega
      have hfin : RowsSaid (Sp.rows s.data.toList) w (.returned u3) wr := by
        have h1 := HR.out
        rw [List.take_length, Hps.out] at h1
        exact ⟨u3, us, rfl, ⟨h1.len, own_base h1.row hb1.size, fun i r u h2 h3 => own_base (h1.fld i r u h2 h3) hb1.size⟩, hb1.trans (HB.out.mono hb1.size)⟩
      clear HR HB hlt hk
      go_wp2_with fail
      go_ret
      exact hfin

/-! ### find -/
theorem good_aliases : decide ((textOf Tryz.f77).size < 1000000) = true := by kernel_rfl
set_option maxRecDepth 100000 in
theorem aliases_calls (w : World) : Calls Tryz.prog 77 #[] w fun e w' => e = .returned (.string (textOf Tryz.f77)) ∧ w = w' := by
  go_enter Tryz.func77, Tryz.ntmps77
  go_wp2
  go_ret
  exact ⟨by kernel_rfl, rfl⟩
noncomputable def names : List (List Sp.Str) := Sp.rows (textOf Tryz.f77).data.toList
theorem names_ok0 : Sp.namesOk (Sp.rows (textOf Tryz.f77).data.toList) = true := by kernel_rfl
theorem names_ok : Sp.namesOk names = true := names_ok0
theorem names_three {f : List Sp.Str} (h : f ∈ names) : ∃ a b c, f = [a, b, c] ∧ b ≠ [] := by
  have h1 := List.all_eq_true.1 names_ok f h
  unfold Sp.rowOk at h1
  simp only [Bool.and_eq_true, beq_iff_eq] at h1
  match f, h1.1.1 with
  | [a, b, c], _ =>
    refine ⟨a, b, c, rfl, ?_⟩
    have := h1.1.2
    simpa [Sp.f1] using this
theorem names_len : names.length ≤ 1000 ∧ ∀ f ∈ names, ∀ x ∈ f, x.length ≤ 1000 := by
  have h : (decide ((Sp.rows (textOf Tryz.f77).data.toList).length ≤ 1000) && (Sp.rows (textOf Tryz.f77).data.toList).all fun f => f.all fun x => decide (x.length ≤ 1000)) = true := by kernel_rfl
  rw [Bool.and_eq_true, decide_eq_true_eq, List.all_eq_true] at h
  exact ⟨h.1, fun f hf x hx => by simpa using List.all_eq_true.1 (h.2 f hf) x hx⟩
theorem hits3 (kind s a b c : Sp.Str) : Sp.hits kind s [a, b, c] = (a == kind && (Sp.loose b == Sp.loose s || Sp.loose c == Sp.loose s)) := by
  simp [Sp.hits, Sp.f0]
theorem fnd_at {rs : List (List Sp.Str)} {kind s : Sp.Str} {k : Nat} (hk : k < rs.length) (h0 : ∀ j (hj : j < k), Sp.hits kind s (rs[j]'(by omega)) = false) (h1 : Sp.hits kind s rs[k] = true) : Sp.fnd rs kind s = some (Sp.f1 rs[k]) := by
  unfold Sp.fnd
  have : rs.find? (Sp.hits kind s) = some rs[k] := by
    rw [List.find?_eq_some_iff_getElem]
    exact ⟨h1, k, hk, rfl, fun j hj => by rw [h0 j hj]; rfl⟩
  rw [this]
  rfl
theorem fnd_none {rs : List (List Sp.Str)} {kind s : Sp.Str} (h0 : ∀ j (hj : j < rs.length), Sp.hits kind s rs[j] = false) : Sp.fnd rs kind s = none := by
  unfold Sp.fnd
  have : rs.find? (Sp.hits kind s) = none := by
    rw [List.find?_eq_none]
    intro x hx
    obtain ⟨j, hj, rfl⟩ := List.mem_iff_getElem.1 hx
    rw [h0 j hj]
    decide
  rw [this]
  rfl
def FindSaid (rs : List (List Sp.Str)) (kind s : Sp.Str) (w : World) (e : Ending) (w' : World) : Prop := e = .returned (.tuple #[strV ((Sp.fnd rs kind s).getD []), .bool (Sp.fnd rs kind s).isSome]) ∧ Below w.heap.size w w'
set_option maxRecDepth 100000 in
theorem find_of {rs : List (List Sp.Str)} (hrw : ∀ w, Env w → Calls Tryz.prog 76 #[.string (textOf Tryz.f77)] w (RowsSaid rs w)) (hn1 : rs.length ≤ 1000) (hn2 : ∀ f ∈ rs, ∀ x ∈ f, x.length ≤ 1000) (h3 : ∀ f ∈ rs, ∃ a b c, f = [a, b, c] ∧ b ≠ [])
    (kind s : Sp.Str) (w : World) (hs : s.length ≤ 2000000) (hE : Env w) : Calls Tryz.prog 46 #[.string ⟨kind.toArray⟩, .string ⟨s.toArray⟩] w (FindSaid rs kind s w) := by
  have HL := Lib.hid (fun (l : Sp.Str) (hl : l.length ≤ 2000000) (w : World) => loose_walk ⟨l.toArray⟩ w (by rw [show (ByteArray.mk l.toArray).size = l.length from List.size_toArray]; exact hl))
  have HRw := Lib.hid hrw
  have Hlen := Lib.hid hn2
  have H3 := Lib.hid h3
  have HS := Lib.hid (show ∀ (w' : World) (o : Option Sp.Str), o = Sp.fnd rs kind s → Below w.heap.size w w' → FindSaid rs kind s w (.returned (.tuple #[strV (o.getD []), .bool o.isSome])) w' from fun w' o ho hb => ⟨by rw [ho], hb⟩)
  have Hat := Lib.hid (fun (k : Nat) (hk : k < rs.length) (h0 : ∀ j (hj : j < k), Sp.hits kind s (rs[j]'(by omega)) = false) (h1 : Sp.hits kind s rs[k] = true) => fnd_at hk h0 h1)
  have Hno := Lib.hid (fun (h0 : ∀ j (hj : j < rs.length), Sp.hits kind s rs[j] = false) => fnd_none h0)
  clear h3 hrw
  clear hn2
  go_enter Tryz.func46, Tryz.ntmps46
  go_wp2_with fail
  refine (HL.out s hs w).mono ?_
  rintro e w1 ⟨rfl, hb1⟩
  have hE1 := hE.below hb1
  have HB1 := Lib.hid hb1
  rw [show Sp.loose (ByteArray.mk s.toArray).data.toList = Sp.loose s from rfl]
  obtain ⟨want, hwant⟩ : ∃ want, want = Sp.loose s := ⟨_, rfl⟩
  rw [← hwant]
  have Hwant := Lib.hid hwant
  unfold strV
  clear hb1 hE hwant
  go_wp2_with fail
  refine (aliases_calls w1).mono ?_
  rintro e w1' ⟨rfl, rfl⟩
  go_wp2_with fail
  refine (HRw.out w1 hE1).mono ?_
  rintro e w2 ⟨v, us, rfl, hN, hb2⟩
  have HN := Lib.hid hN
  have HB2 := Lib.hid (HB1.out.trans (hb2.mono HB1.out.size))
  have hul : rs.length = us.length := hN.len
  obtain ⟨A, cp, rfl⟩ := own_slice hN.row
  clear hN hb2 hE1 HRw HB1
  go_wp2_with fail
  go_loopw [16] (fun i wr => ∃ k : Nat, ∃ hk : k ≤ rs.length, i = .int .i64 k ∧ Hid (∀ j (hj : j < k), Sp.hits kind s (rs[j]'(by omega)) = false) ∧ Hid (Below w2.heap.size w2 wr)) (fun i _ => rs.length - (intOf i).toNat)
  case atStart => exact ⟨0, by omega, rfl, (fun j hj => absurd hj (by omega)), Below.refl _ _⟩
  case round =>
    obtain ⟨k, hk, rfl, HZ, HB⟩ := hrel
    by_cases hlt : k < rs.length
    · obtain ⟨f, hf⟩ : ∃ f, f = rs[k] := ⟨_, rfl⟩
      obtain ⟨u, hu⟩ : ∃ u, u = us[k]'(by omega) := ⟨_, rfl⟩
      have hmem : f ∈ rs := by rw [hf]; exact List.getElem_mem _
      have HNk := Lib.hid (HN.out.below HB.out)
      have ho := HNk.out.fld k f u (by rw [hf]; exact List.getElem?_eq_getElem _) (by rw [hu]; exact List.getElem?_eq_getElem _)
      obtain ⟨g, cp', e0, _, hgl2, _, _⟩ := own_form HN.out.row (by omega)
      injection e0 with e1 e2 e3
      subst e1 e3
      have hcu := own_cell HNk.out.row k u (by rw [hu]; exact List.getElem?_eq_getElem _)
      obtain ⟨a, b, c, rfl, hb0⟩ := H3.out f hmem
      obtain ⟨gu, cu, rfl, _, hgl, hcu3, _⟩ := own_form ho (by show 0 < 3; decide)
      change 3 ≤ cu at hcu3
      have ca : wr.cell? ⟨gu, 0, none⟩ = some (.string ⟨a.toArray⟩) := own_cell ho 0 _ rfl
      have cb : wr.cell? ⟨gu, 1, none⟩ = some (.string ⟨b.toArray⟩) := own_cell ho 1 _ rfl
      have cc : wr.cell? ⟨gu, 2, none⟩ = some (.string ⟨c.toArray⟩) := own_cell ho 2 _ rfl
      have hlb := Hlen.out _ hmem b (by simp)
      have hlc := Hlen.out _ hmem c (by simp)
      have Hk := Lib.hid (show Sp.hits kind s rs[k] = (a == kind && (Sp.loose b == want || Sp.loose c == want)) by rw [← hf, hits3, Hwant.out])
      have Hf1 := Lib.hid (show Sp.f1 rs[k] = b by rw [← hf]; rfl)
      change wr.cell? ⟨g, k, none⟩ = some (.slice (some ⟨gu, 0, none⟩) 3 cu) at hcu
      have HZs := Lib.hid (fun (h : Sp.hits kind s rs[k] = false) (j : Nat) (hj : j < k + 1) => show Sp.hits kind s (rs[j]'(by omega)) = false by
        by_cases hj2 : j < k
        · exact HZ.out j hj2
        · obtain rfl : j = k := by omega
          exact h)
      have HZh := Lib.hid (fun (h : Sp.hits kind s rs[k] = true) => (Hat.out k hlt HZ.out h).trans (congrArg some Hf1.out))
      clear hf hu hmem ho hb0 HZ HNk
      by_cases ha : a = kind
      · have e4 : (a == kind) = true := beq_iff_eq.2 ha
        have e5 : (a != kind) = false := by rw [bne, e4]; rfl
        generalize wr = Wo at *
        go_wp2_with fail
        go_loopw [28] (fun j wr => ∃ q : Nat, q ≤ 2 ∧ j = .int .i64 q ∧ (1 ≤ q → Sp.loose b ≠ want) ∧ (2 ≤ q → Sp.loose c ≠ want) ∧ Hid (Below Wo.heap.size Wo wr)) (fun j _ => 2 - (intOf j).toNat)
        case atStart => exact ⟨0, by omega, rfl, (fun h => absurd h (by omega)), (fun h => absurd h (by omega)), Below.refl _ _⟩
        case round =>
          obtain ⟨q, hq, rfl, h1, h2, HBq⟩ := hrel
          have dc := fun (i : Nat) x (h : Wo.cell? ⟨gu, i, none⟩ = some x) => (HBq.out.cell (p := ⟨gu, i, none⟩) hgl).trans h
          by_cases hq2 : q < 2
          · obtain ⟨n, hn, hcn⟩ : ∃ n : Sp.Str, ((q = 0 ∧ n = b) ∨ (q = 1 ∧ n = c)) ∧ wr.cell? ⟨gu, 1 + q, none⟩ = some (.string ⟨n.toArray⟩) := by
              rcases (show q = 0 ∨ q = 1 by omega) with rfl | rfl
              · exact ⟨b, .inl ⟨rfl, rfl⟩, dc 1 _ cb⟩
              · exact ⟨c, .inr ⟨rfl, rfl⟩, dc 2 _ cc⟩
            have hln : n.length ≤ 2000000 := by rcases hn with ⟨_, rfl⟩ | ⟨_, rfl⟩ <;> omega
            have cb2 := dc 1 _ cb
            have Hn := Lib.hid hn
            clear dc hn
            go_wp2_with fail
            refine (HL.out n hln wr).mono ?_
            rintro e w3 ⟨rfl, hb3⟩
            rw [show Sp.loose (ByteArray.mk n.toArray).data.toList = Sp.loose n from rfl]
            have HB3 := Lib.hid (HBq.out.trans (hb3.mono HBq.out.size))
            have cb3 : w3.cell? ⟨gu, 1, none⟩ = some (.string ⟨b.toArray⟩) := (hb3.cell (p := ⟨gu, 1, none⟩) (by have := HBq.out.size; show gu < _; omega)).trans cb2
            unfold strV
            clear hb3 cb2 hcn
            by_cases hh : Sp.loose n = want
            · have e6 : (Sp.loose n == want) = true := beq_iff_eq.2 hh
              have hhit : Sp.hits kind s rs[k] = true := by
                rw [Hk.out, e4]
                rcases Hn.out with ⟨_, rfl⟩ | ⟨_, rfl⟩ <;> rw [e6] <;> simp
              have hfin := HS.out w3 (some b) (HZh.out hhit).symm ((HB2.out.trans (HB.out.mono HB2.out.size)).trans (HB3.out.mono (HB2.out.trans (HB.out.mono HB2.out.size)).size))
              clear hhit HZh HZs Hk Hn
              go_wp2_with fail
              go_ret2
              exact hfin
            · have e6 : (Sp.loose n == want) = false := beq_eq_false_iff_ne.2 hh
              go_wp2_with fail
              go_roundw
              case rel => exact ⟨q + 1, by omega, by go_num, (fun _ => by rcases Hn.out with ⟨_, rfl⟩ | ⟨h, rfl⟩ <;> first | exact hh | exact h1 (by omega)), (fun h => by rcases Hn.out with ⟨h', rfl⟩ | ⟨_, rfl⟩ <;> first | exact hh | omega), HB3⟩
              case measure => simp [intOf]; omega
          · obtain rfl : q = 2 := by omega
            have hmiss : Sp.hits kind s rs[k] = false := by
              rw [Hk.out, beq_eq_false_iff_ne.2 (h1 (by omega)), beq_eq_false_iff_ne.2 (h2 (by omega))]
              simp
            have HZ2 := Lib.hid (HZs.out hmiss)
            have HB4 := Lib.hid (HB.out.trans (HBq.out.mono HB.out.size))
            clear dc h1 h2 hmiss HZs HZh Hk
            go_wp2_with fail
            go_roundw
            case rel => exact ⟨k + 1, by omega, by go_num, HZ2, HB4⟩
            case measure => simp [intOf]; omega
      · have e4 : (a == kind) = false := beq_eq_false_iff_ne.2 ha
        have e5 : (a != kind) = true := by rw [bne, e4]; rfl
        have HZ2 := Lib.hid (HZs.out (by rw [Hk.out, e4]; rfl))
        clear HZs HZh Hk
        go_wp2_with fail
        go_roundw
        case rel => exact ⟨k + 1, by omega, by go_num, HZ2, HB⟩
        case measure => simp [intOf]; omega
    · obtain rfl : k = rs.length := by omega
      have hno := Hno.out HZ.out
      have hfin := HS.out wr none hno.symm (HB2.out.trans (HB.out.mono HB2.out.size))
      clear HZ HB hlt hk
      go_wp2_with fail
      go_ret2
      exact hfin
theorem find_walk (kind s : Sp.Str) (w : World) (hs : s.length ≤ 2000000) (hE : Env w) : Calls Tryz.prog 46 #[.string ⟨kind.toArray⟩, .string ⟨s.toArray⟩] w (FindSaid names kind s w) :=
  find_of (fun w hE => rows_walk _ w (of_decide_eq_true good_aliases) hE) names_len.1 names_len.2 (fun f hf => names_three hf) kind s w hs hE
end Go.Proofs.YtchkckfadennhaaGreatDoor
