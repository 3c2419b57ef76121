/- props.all and props.category: a category's set. -/
import Derived.Test.YtchkckfadennhaaGreatDoorRgsW
import Derived.Test.YtchkckfadennhaaGreatDoorIdyW
import Derived.Test.YtchkckfadennhaaGreatDoorLod2
import Derived.Test.YtchkckfadennhaaGreatDoorAppM
namespace Go.Proofs.YtchkckfadennhaaGreatDoor
open Go.RowKit Go.Maps
set_option linter.unusedVariables false
set_option linter.unusedSimpArgs false

/-- A row of one's own as any slice. -/
theorem own_any {w : World} {base n : Nat} {e : TypeId} {size : Nat} {v : Value} {xs : List Value} (h : w.ownsRow base e size v n xs) : ∃ A c, v = .slice A n c ∧ (A = none → n = 0 ∧ c = 0) ∧ ∀ ad, A = some ad → ∀ j u, xs[j]? = some u → w.cell? (ad.add j) = some u := by
  have h' := h
  rcases h'.2 with ⟨rfl, rfl⟩ | ⟨g, cap, cur, rfl, _⟩
  · exact ⟨none, 0, rfl, fun _ => ⟨rfl, rfl⟩, fun ad h => by cases h⟩
  · refine ⟨some ⟨g, 0, none⟩, cap, rfl, (fun h => by cases h), fun ad had j u hu => ?_⟩
    cases had
    rw [add_plain, Nat.zero_add]
    exact own_cell h j u hu
theorem rgsA_one (L : List Rg) : ∀ u ∈ L.flatMap rgCells, u.oneCell' = true := by
  intro u hu
  obtain ⟨r, _, hr⟩ := List.mem_flatMap.1 hu
  simp [rgCells] at hr
  rcases hr with rfl | rfl <;> rfl
theorem rgsA_len (L : List Rg) : (L.flatMap rgCells).length = L.length * 2 := flat_len rgCells 2 (fun _ => rfl) L
theorem rgs_append {w : World} {base : Nat} {v : Value} {O L : List Rg} (h : w.ownsRow base 37 2 v (O.length + L.length) (O.flatMap rgCells ++ L.flatMap rgCells)) : RgsAt w base v (O ++ L) := by
  unfold RgsAt
  rw [List.flatMap_append, List.length_append]
  exact h
theorem text_hit {rs : List Rec} (hr : Rises rs) {L : List Rg} (hL : CanL L) {c : Sp.Str} (h : ∀ r, inSet L r ↔ trieGet (valsOf rs) (entCur (entsOf rs).reverse) r = some c) : (∀ r, inSet L r ↔ hitOf rs r = some c) ∧ L.length ≤ rs.length := by
  have hhi : ∀ x ∈ rs, x.hi ≤ 1114111 := fun x hx => (hr.ok x hx).2.1
  have h1 : ∀ r, inSet L r ↔ hitOf rs r = some c := fun r => by rw [h, trie_hit hhi]
  refine ⟨h1, Nat.le_trans (can_len hL (M := rgsIf (fun d => d == c) rs) fun r => ?_) (rgsIf_len _ _)⟩
  rw [h1, ← show textSet rs c r ↔ inSet (rgsIf (fun d => d == c) rs) r from textSet_iff hr c r]
  unfold textSet
  constructor
  · intro e; exact ⟨(hit_in hhi e).1, e⟩
  · intro e; exact e.2
theorem notFrom_len : ∀ (L : List Rg) (a : Int), (notFrom a L).length ≤ L.length + 1
  | [], a => by unfold notFrom; split <;> simp
  | r :: L, a => by
    have ih := notFrom_len L (r.hi + 1)
    unfold notFrom
    rw [List.length_append, List.length_cons]
    split <;> simp <;> omega
theorem not_len {s : List Rg} (hs : CanL s) (hin : ∀ x ∈ s, RgIn x) {L : List Rg} (hL : CanL L) (h : ∀ r, inSet L r ↔ (0 ≤ r ∧ r ≤ 1114111) ∧ ¬ inSet s r) : L.length ≤ s.length + 1 := by
  obtain ⟨k1, _, k3⟩ := notFrom_set s 0 hs fun x hx => ⟨(hin x hx).1, (hin x hx).2.2⟩
  rw [can_unique hL k1 fun r => (h r).trans (k3 r).symm]
  exact notFrom_len _ _
def KindsIn (rs : List Rec) (v : Sp.Str) (k : Nat) (O : List Rg) : Prop := ∀ r, inSet O r ↔ ∃ c ∈ (valsOf rs).take k, which v c = true ∧ hitOf rs r = some c
theorem KindsIn.skip {rs : List Rec} {v : Sp.Str} {k : Nat} {O : List Rg} (h : KindsIn rs v k O) (hk : k < (valsOf rs).length) (hw : which v (valsOf rs)[k] = false) : KindsIn rs v (k + 1) O := by
  intro r
  rw [h r, List.take_succ_eq_append_getElem hk]
  constructor
  · rintro ⟨c, h1, h2⟩
    exact ⟨c, List.mem_append_left _ h1, h2⟩
  · rintro ⟨c, h1, h2, h3⟩
    rcases List.mem_append.1 h1 with h1 | h1
    · exact ⟨c, h1, h2, h3⟩
    · simp at h1
      subst h1
      rw [hw] at h2
      cases h2
theorem KindsIn.push {rs : List Rec} {v : Sp.Str} {k : Nat} {O L : List Rg} (h : KindsIn rs v k O) (hk : k < (valsOf rs).length) (hw : which v (valsOf rs)[k] = true) (hL : ∀ r, inSet L r ↔ hitOf rs r = some (valsOf rs)[k]) : KindsIn rs v (k + 1) (O ++ L) := by
  intro r
  rw [inSet_append, h r, hL r, List.take_succ_eq_append_getElem hk]
  constructor
  · rintro (⟨c, h1, h2⟩ | h1)
    · exact ⟨c, List.mem_append_left _ h1, h2⟩
    · exact ⟨_, List.mem_append_right _ (by simp), hw, h1⟩
  · rintro ⟨c, h1, h2, h3⟩
    rcases List.mem_append.1 h1 with h1 | h1
    · exact .inl ⟨c, h1, h2, h3⟩
    · simp at h1
      subst h1
      exact .inr h3
set_option maxRecDepth 100000 in
set_option maxHeartbeats 1600000 in
theorem all_walk {w : World} {m : Nat} {Φ : Files} (ht : TabAt w m Φ) (hr : Rises Φ.cat) (hn1 : (valsOf Φ.cat).length ≤ 100) (hn2 : Φ.cat.length ≤ 5000) (v : Sp.Str) (b : Nat) (hv : w.cell? ⟨b, 0, none⟩ = some (.string ⟨v.toArray⟩)) :
    Calls Tryz.prog 56 #[.pointer (some ⟨m + 3, 0, none⟩), .func (.func 57) #[] #[.pointer (some ⟨b, 0, none⟩)]] w (SetIs (catSet Φ.cat v) w) := by
  obtain ⟨⟨p0, p1, p2, p3, p4, vv, kv, htab, h5⟩, _, _, _⟩ := ht
  have c0 : w.cell? ⟨m + 3, 0, none⟩ = some (.pointer (some ⟨p0, 0, none⟩)) := htab.cell 0
  have c5 : w.cell? ⟨m + 3, 5, none⟩ = some vv := htab.cell 5
  have c6 : w.cell? ⟨m + 3, 6, none⟩ = some kv := htab.cell 6
  obtain ⟨s, hp, hpw, hkv⟩ := h5.known
  obtain ⟨hcan, hset⟩ := make_set hp hpw
  have hjl : (joinAll s).length ≤ Φ.cat.length := Nat.le_trans (joinAll_len s) (by rw [hp.length_eq]; exact Nat.le_trans (clipped_len _) (by rw [rgsOf_len]; exact Nat.le_refl _))
  have Hnl := Lib.hid (fun (L : List Rg) h1 h2 => not_len hcan (joinAll_in fun x hx => clipped_in _ x (hp.mem_iff.1 hx)) (L := L) h1 h2)
  have HK := Lib.hid h5.kinds
  have HT := Lib.hid h5.t0
  have HKv := Lib.hid hkv
  have Hset := Lib.hid hset
  have Hr := Lib.hid hr
  have HW := Lib.hid (fun (c : Sp.Str) (W : World) (h : W.cell? ⟨b, 0, none⟩ = some (.string ⟨v.toArray⟩)) => which_walk v c b W h)
  obtain ⟨A5, cc5, rfl⟩ := own_slice h5.kinds
  obtain ⟨A6, cc6, rfl⟩ := own_slice hkv
  have hB : ∃ n, n = (valsOf Φ.cat).length := ⟨_, rfl⟩
  have hm3 : m + 3 < w.heap.size := heap_lt htab
  clear hp hpw hkv hset hcan hr h5 htab
  go_enter Tryz.func56, Tryz.ntmps56
  go_wp2_with fail
  go_loopw [5, 13] (fun u5 i wr => ∃ (k : Nat) (O : List Rg), k ≤ (valsOf Φ.cat).length ∧ i = .int .i64 k ∧ Hid (RgsAt wr w.heap.size u5 O) ∧ Hid (KindsIn Φ.cat v k O) ∧ O.length ≤ k * 5000 ∧ Hid (Below w.heap.size w wr)) (fun _ i _ => (valsOf Φ.cat).length - (intOf i).toNat)
  case atStart => exact ⟨0, [], by omega, rfl, World.ownsRow_nil _ _ _ _, (fun r => by simp [inSet]), by simp, Below.refl _ _⟩
  case round =>
    obtain ⟨k, O, hk, rfl, HO, HI, hOl, HB⟩ := hrel
    by_cases hlt : k < (valsOf Φ.cat).length
    · obtain ⟨g, cap, e, _, hgl, _, _⟩ := own_form HK.out (by omega)
      cases e
      have hc : wr.cell? ⟨g, k, none⟩ = some (.string ⟨((valsOf Φ.cat)[k]).toArray⟩) := cell_later HB.out (own_cell HK.out k _ (by unfold strVs; rw [List.getElem?_map, List.getElem?_eq_getElem hlt]; rfl))
      have hvb := cell_later HB.out hv
      have Hskip := Lib.hid (fun h => HI.out.skip hlt h)
      have Hpush := Lib.hid (fun (L : List Rg) (h) (hL : ∀ r, inSet L r ↔ hitOf Φ.cat r = some (valsOf Φ.cat)[k]) => HI.out.push hlt h hL)
      generalize hcc : (valsOf Φ.cat)[k] = cc at *
      have HWc := Lib.hid (HW.out cc wr hvb)
      have HTr := Lib.hid (show TrieAt wr (m + 4) p0 (valsOf Φ.cat) (entCur (entsOf Φ.cat).reverse) from TrieAt.below HT.out HB.out)
      have d0 := cell_later HB.out c0
      clear hcc hvb
      generalize hww : which v cc = ww at *
      cases ww with
      | false =>
        have HI2 := Lib.hid (Hskip.out rfl)
        clear Hskip Hpush hww
        go_wp2_with fail
        refine HWc.out.mono ?_
        rintro e w1 ⟨rfl, rfl⟩
        go_wp2_with fail
        go_roundw
        case rel => exact ⟨k + 1, O, by omega, by go_num, HO, HI2, by omega, HB⟩
        case measure => simp [intOf]; omega
      | true =>
        clear Hskip hww
        go_wp2_with fail
        refine HWc.out.mono ?_
        rintro e w1 ⟨rfl, rfl⟩
        go_wp2_with fail
        refine (ranges_walk HTr.out cc (by omega)).mono ?_
        rintro e w2 ⟨v2, L, rfl, hL, hcan, hset, hb2⟩
        obtain ⟨h1, h2⟩ := text_hit Hr.out hcan hset
        have HI2 := Lib.hid (Hpush.out L (by trivial) h1)
        have HO2 := Lib.hid (own_below HO.out hb2)
        have HB2 := Lib.hid (HB.out.trans (hb2.mono HB.out.size))
        obtain ⟨A, c, rfl, hA, hcells⟩ := own_any hL
        have HA := Lib.hid hA
        have Hcells := Lib.hid hcells
        have hbt : (O.length + L.length) * 16 ≤ 140737488355328 := by omega
        have hk5 : k * 5000 + 5000 = (k + 1) * 5000 := by omega
        clear hL hcan hset hb2 h1 hA hcells HO HB HI Hpush HWc
        go_wp2_with (at_builtin; refine wp_append_more w2 slRange rfl (.tmp 20) (.tmp 27) rfl w.heap.size u5 _ _ rfl (by exact HO2.out) A L.length c (L.flatMap rgCells) rfl (by exact HA.out) (by exact rgsA_len L) (by exact Hcells.out) (by exact rgsA_one L) (by exact hbt) (by exact HB2.out.size) ?_; intro v5 w5 hown5 hg5; have HO5 := Lib.hid (rgs_append hown5); have HB5 := Lib.hid (HB2.out.grown hg5 HB2.out.size (fun k hk => (own_lt HO2.out k hk).1)); clear hg5 hown5)
        go_roundw
        case rel => exact ⟨k + 1, O ++ L, by omega, by go_num, HO5, HI2, by rw [List.length_append]; omega, HB5⟩
        case measure => simp [intOf]; omega
    · obtain rfl : k = (valsOf Φ.cat).length := by omega
      have hvb := cell_later HB.out hv
      have HWn := Lib.hid (HW.out Cn wr hvb)
      have hk6 := cell_later HB.out c6
      have hI := HI.out
      unfold KindsIn at hI
      rw [List.take_length] at hI
      have Hcs := Lib.hid (fun r => catSet_kinds Hr.out v r)
      have Hhit := Lib.hid (show ∀ c r, hitOf Φ.cat r = some c → 0 ≤ r ∧ r ≤ 1114111 from fun c r h => (hit_in (fun x hx => (Hr.out.ok x hx).2.1) h).1)
      have HkvR := Lib.hid (own_below HKv.out HB.out)
      unfold Cn at HWn
      generalize hww : which v [67, 110] = ww at *
      have Hww := Lib.hid hww
      clear HK HT HI HW hvb hww
      have HIn := Lib.hid hI
      clear hI
      cases ww with
      | false =>
        go_wp2_with fail
        refine HWn.out.mono ?_
        rintro e w1 ⟨rfl, rfl⟩
        go_wp2_with fail
        refine (make_walk O w.heap.size u5 wr HO.out (by omega)).mono ?_
        rintro e w5 ⟨v5, s5, rfl, hperm, hsort, hr5, hb5⟩
        have hfin : SetIs (catSet Φ.cat v) w (.returned v5) w5 := by
          obtain ⟨k1, k2⟩ := make_set hperm hsort
          refine ⟨v5, _, rfl, own_base hr5 HB.out.size, k1, fun r => ?_, HB.out.trans (hb5.mono HB.out.size)⟩
          rw [k2, HIn.out r, Hcs.out r]
          constructor
          · rintro ⟨h1, h2⟩
            exact ⟨h1, .inl h2⟩
          · rintro ⟨h1, h2 | ⟨h2, _⟩⟩
            · exact ⟨h1, h2⟩
            · have h3 : which v [67, 110] = true := h2
              rw [Hww.out] at h3
              cases h3
        clear hperm hsort hr5 hb5 HO HB
        go_wp2_with fail
        go_ret
        exact hfin
      | true =>
        go_wp2_with fail
        refine HWn.out.mono ?_
        rintro e w1 ⟨rfl, rfl⟩
        go_wp2_with fail
        refine (not_walk _ _ _ wr HkvR.out (by omega)).mono ?_
        rintro e w2 ⟨v2, L, rfl, hL, hcan, hset, hb2⟩
        have HO2 := Lib.hid (own_below HO.out hb2)
        have HB2 := Lib.hid (HB.out.trans (hb2.mono HB.out.size))
        have hLl : L.length ≤ 100000 := by
          have := Hnl.out L hcan hset
          omega
        obtain ⟨A, c, rfl, hA, hcells⟩ := own_any hL
        have HA := Lib.hid hA
        have Hcells := Lib.hid hcells
        have Hs2 := Lib.hid hset
        have hbt : (O.length + L.length) * 16 ≤ 140737488355328 := by omega
        clear hL hcan hset hb2 hA hcells HO HB HWn
        go_wp2_with (at_builtin; refine wp_append_more w2 slRange rfl (.tmp 32) (.tmp 37) rfl w.heap.size u5 _ _ rfl (by exact HO2.out) A L.length c (L.flatMap rgCells) rfl (by exact HA.out) (by exact rgsA_len L) (by exact Hcells.out) (by exact rgsA_one L) (by exact hbt) (by exact HB2.out.size) ?_; intro v5 w5 hown5 hg5; have HO5 := Lib.hid (rgs_append hown5); have HB5 := Lib.hid (HB2.out.grown hg5 HB2.out.size (fun k hk => (own_lt HO2.out k hk).1)); clear hg5 hown5)
        refine (make_walk (O ++ L) w.heap.size v5 w5 HO5.out (by rw [List.length_append]; omega)).mono ?_
        rintro e w6 ⟨v6, s6, rfl, hperm, hsort, hr6, hb6⟩
        have hfin : SetIs (catSet Φ.cat v) w (.returned v6) w6 := by
          obtain ⟨k1, k2⟩ := make_set hperm hsort
          refine ⟨v6, _, rfl, own_base hr6 HB5.out.size, k1, fun r => ?_, HB5.out.trans (hb6.mono HB5.out.size)⟩
          rw [k2, inSet_append, HIn.out r, Hcs.out r, Hs2.out r, Hset.out r]
          constructor
          · rintro ⟨h1, h2 | ⟨h2, h3⟩⟩
            · exact ⟨h1, .inl h2⟩
            · exact ⟨h1, .inr ⟨Hww.out, fun h => h3 ⟨h1, h⟩⟩⟩
          · rintro ⟨h1, h2 | ⟨_, h2⟩⟩
            · exact ⟨h1, .inl h2⟩
            · exact ⟨h1, .inr ⟨h1, fun h => h2 h.2⟩⟩
        clear hperm hsort hr6 hb6 HO2 HO5
        go_wp2_with fail
        go_ret
        exact hfin
theorem category_set {w : World} {m : Nat} {Φ : Files} (ht : TabAt w m Φ) (hr : Rises Φ.cat) (hn1 : (valsOf Φ.cat).length ≤ 100) (hn2 : Φ.cat.length ≤ 5000) (v : Sp.Str) :
    Calls Tryz.prog 29 #[.pointer (some ⟨m + 3, 0, none⟩), .string ⟨v.toArray⟩] w (SetIs (catSet Φ.cat v) w) := by
  have hb0 := alloc_below w (.cells #[.string ⟨v.toArray⟩] 9)
  have HA := Lib.hid (all_walk (ht.below hb0) hr hn1 hn2 v w.heap.size (Blk.cell (row_new w _) 0))
  have HB := Lib.hid hb0
  clear hb0 ht
  go_enter Tryz.func29, Tryz.ntmps29
  go_wp2_with fail
  refine HA.out.mono ?_
  rintro e w1 ⟨v1, L, rfl, h1, h2, h3, h4⟩
  have hfin : SetIs (catSet Φ.cat v) w (.returned v1) w1 := ⟨v1, L, rfl, own_base h1 HB.out.size, h2, h3, HB.out.trans (h4.mono HB.out.size)⟩
  clear h1 h2 h3 h4
  go_wp2_with fail
  go_ret
  exact hfin
end Go.Proofs.YtchkckfadennhaaGreatDoor
