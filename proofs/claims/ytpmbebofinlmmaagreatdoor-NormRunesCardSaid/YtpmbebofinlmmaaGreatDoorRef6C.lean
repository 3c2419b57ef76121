/- rubricatorref06: Cluster, Parts, Fold. -/
import Derived.Test.YtpmbebofinlmmaaGreatDoorRef6M
import Derived.Test.YtpmbebofinlmmaaGreatDoorClu
import Derived.Test.YtpmbebofinlmmaaGreatDoorAppM
import Derived.Test.YtpmbebofinlmmaaGreatDoorAcc3W
import Derived.StillTailTactics
namespace Go.Proofs.YtpmbebofinlmmaaGreatDoor
open Go.RowKit
set_option linter.unusedVariables false
set_option linter.unusedSimpArgs false

theorem intsR_intz (l : List Nat) : intsR l = intz (l.map fun n : Nat => (n : Int)) := by
  unfold intsR intz
  rw [List.map_map]
  rfl
def partsR (Φ : Files) (r : Int) : List Int := match Φ.dec.find? (inRec2 r) with
  | some x => (Sp.pts (fld0 x)).map fun n : Nat => (n : Int)
  | none => []
def inFold (r : Int) (full : Bool) (x : Rec) : Bool := inRec2 r x && !skips x full
def foldR (Φ : Files) (full : Bool) (r : Int) : List Int := match Φ.fol.find? (inFold r full) with
  | some x => (bump (Sp.pts (fld1 x)) (r - x.lo).toNat).map fun n : Nat => (n : Int)
  | none => [r]
section
variable {w : World} {B b : Nat} {Φ : Files}
set_option maxRecDepth 100000 in
theorem cluster_ref (h : RefAt w B b Φ) (hok : FilesOk Φ) (r : Int) : Calls Tryz.prog 36 #[.pointer (some ⟨b, 0, none⟩), .int .i64 r] w fun e w' => e = .returned (.string ⟨(cluOf Φ r).toArray⟩) ∧ Below w.heap.size w w' := by
  obtain ⟨v0, v1, v2, v3, v4, v5, v6, v7, v8, f0, f1, f2, f3, f4, f5, f6, u7, u8, h0, h1, h2, h3, h4, h5, h6, h7, h8, h9⟩ := h.all
  obtain ⟨A2, c2, rfl⟩ := own_slice h3.row
  have hc : w.cell? ⟨b, 2, none⟩ = some (.slice A2 Φ.clu.length c2) := h0.cell 2
  have HO := Lib.hid (or_ref h3 (listOk_ne hok.clu) r (by have := hok.clu.le; omega) [])
  have ht : txOf Φ.clu r [] = firstOf Φ.clu r [] := txOf_first (listOk_hi hok.clu) r []
  unfold cluOf
  rw [ht]
  generalize firstOf Φ.clu r [] = S at *
  clear h0 h1 h2 h3 h4 h5 h6 h7 h8 h9 h ht
  by_cases h1 : 44032 ≤ r
  · by_cases h2 : r ≤ 55203
    · have d1 := decide_eq_true (show r ≥ 44032 from h1)
      have d2 := decide_eq_true h2
      have b1 : IntKind.i64.wrap (r - 44032) = r - 44032 := by rw [IntKind.wrap_i64]; omega
      have b2 : Int.tmod (r - 44032) 28 = (r - 44032) % 28 := Int.tmod_eq_emod_of_nonneg (by omega)
      rw [if_pos ⟨h1, h2⟩]
      by_cases h3 : (r - 44032) % 28 = 0
      · rw [if_pos h3]
        have d3 : ((r - 44032) % 28 == 0) = true := by rw [h3]; rfl
        go_enter Tryz.func36, Tryz.ntmps36
        go_wp2_with fail
        go_ret
        exact ⟨rfl, Below.refl _ _⟩
      · rw [if_neg h3]
        have d3 : ((r - 44032) % 28 == 0) = false := beq_eq_false_iff_ne.2 h3
        go_enter Tryz.func36, Tryz.ntmps36
        go_wp2_with fail
        go_ret
        exact ⟨rfl, Below.refl _ _⟩
    · rw [if_neg (by omega)]
      have d1 := decide_eq_true (show r ≥ 44032 from h1)
      have d2 := decide_eq_false h2
      go_enter Tryz.func36, Tryz.ntmps36
      go_wp2_with fail
      refine HO.out.mono ?_
      rintro e w1 ⟨rfl, hb⟩
      have HB := Lib.hid hb
      clear hb HO
      go_wp2_with fail
      go_ret
      exact ⟨rfl, HB.out⟩
  · rw [if_neg (by omega)]
    have d1 := decide_eq_false (show ¬ r ≥ 44032 from h1)
    go_enter Tryz.func36, Tryz.ntmps36
    go_wp2_with fail
    refine HO.out.mono ?_
    rintro e w1 ⟨rfl, hb⟩
    have HB := Lib.hid hb
    clear hb HO
    go_wp2_with fail
    go_ret
    exact ⟨rfl, HB.out⟩
theorem own_news {w : World} {B n c : Nat} {e : TypeId} {A : Option Addr} {xs : List Value} (h : w.ownsRow B e 1 (.slice A n c) n xs) : ∀ ad, A = some ad → ∀ j u, xs[j]? = some u → w.cell? (ad.add j) = some u := by
  rintro ad rfl j u hj
  rcases h.2 with ⟨h', _⟩ | ⟨g', cap', cur, h', _⟩
  · cases h'
  · injection h' with h1 _ _
    cases h1
    exact h.cells (g := g') rfl j u hj
theorem own_none (W : World) (e : TypeId) (B : Nat) (hB : B ≤ W.heap.size) : (W.alloc (.cells #[] e)).ownsRow B e 1 (.slice (some ⟨W.heap.size, 0, none⟩) 0 0) 0 [] :=
  ⟨rfl, .inr ⟨W.heap.size, 0, #[], rfl, hB, row_new _ _, Nat.le_refl _, Nat.zero_le _, rfl, rfl⟩⟩
set_option maxRecDepth 100000 in
set_option maxHeartbeats 1600000 in
theorem parts_ref (h : RefAt w B b Φ) (hok : FilesOk Φ) (r : Int) : Calls Tryz.prog 40 #[.pointer (some ⟨b, 0, none⟩), .int .i64 r] w (CloneSaid (partsR Φ r) w) := by
  obtain ⟨v0, v1, v2, v3, v4, v5, v6, v7, v8, f0, f1, f2, f3, f4, f5, f6, u7, u8, h0, h1, h2, h3, h4, h5, h6, h7, h8, h9⟩ := h.all
  obtain ⟨A5, c5, rfl⟩ := own_slice h6.row
  obtain ⟨A7, c7, rfl⟩ := own_slice h8.row
  have hdl : (decPts Φ).length = Φ.dec.length := by unfold decPts; rw [List.length_map]
  have hlen := hok.decl.le
  rw [hdl] at h0 h8
  have HT := Lib.hid h0
  have HR := Lib.hid h6
  have HP := Lib.hid h8
  have Hok := Lib.hid hok
  have z5 : w.cell? ⟨b, 5, none⟩ = some (.slice A5 Φ.dec.length c5) := h0.cell 5
  obtain ⟨PR, hPR⟩ : ∃ PR, PR = partsR Φ r := ⟨_, rfl⟩
  rw [← hPR]
  have HPR := Lib.hid hPR
  clear h0 h1 h2 h3 h4 h5 h6 h7 h8 h9 h hok hPR
  go_enter Tryz.func40, Tryz.ntmps40
  go_wp2_with fail
  go_loopw [12] (fun i wr => ∃ k : Nat, k ≤ Φ.dec.length ∧ i = .int .i64 k ∧ Hid (Φ.dec.find? (inRec2 r) = (Φ.dec.drop k).find? (inRec2 r)) ∧ Hid (Below w.heap.size w wr)) (fun i _ => Φ.dec.length - (intOf i).toNat)
  case atStart => exact ⟨0, by omega, rfl, rfl, Below.refl _ _⟩
  case round =>
    obtain ⟨k, hk, rfl, HI, HB⟩ := hrel
    clear z5
    by_cases hlt : k < Φ.dec.length
    · have hRr := HR.out.below HB.out
      have hPr := HP.out.below HB.out
      obtain ⟨g0, cap0, hv, _, _, _, _⟩ := own_form hRr.row (by omega)
      injection hv with hA hn0 hc0
      subst hA hc0
      obtain ⟨u, hu⟩ : ∃ u, u = f5[k]'(by rw [← HR.out.len]; exact hlt) := ⟨_, rfl⟩
      obtain ⟨x, hx⟩ : ∃ x, x = Φ.dec[k] := ⟨_, rfl⟩
      obtain ⟨e0, e1, e2⟩ := recCells_get Φ.dec f5 k HR.out.len hlt
      rw [← hx] at e0 e1
      rw [← hu] at e2
      have c0 := own_cell hRr.row _ _ e0
      have c1 := own_cell hRr.row _ _ e1
      have c2 := own_cell hRr.row _ _ e2
      have hfld := hRr.fld k x u (by rw [hx]; exact List.getElem?_eq_getElem hlt) (by rw [hu]; exact List.getElem?_eq_getElem _)
      have hd : Φ.dec.drop k = x :: Φ.dec.drop (k + 1) := by rw [hx]; exact List.drop_eq_getElem_cons hlt
      have hmem : x ∈ Φ.dec := by rw [hx]; exact List.getElem_mem _
      obtain ⟨Au, cu, rfl⟩ := own_slice hfld
      have hbx := alloc_below wr (Obj.cells #[Value.int IntKind.i64 x.lo, Value.int IntKind.i64 x.hi, Value.slice Au x.fields.length cu] 81)
      have HBx := Lib.hid (HB.out.trans (hbx.mono HB.out.size))
      have Hmiss := Lib.hid (fun hn : inRec2 r x = false => (show Φ.dec.find? (inRec2 r) = (Φ.dec.drop (k + 1)).find? (inRec2 r) by rw [HI.out, hd, List.find?_cons, hn]))
      have Hhit := Lib.hid (fun hn : inRec2 r x = true => (show Φ.dec.find? (inRec2 r) = some x by rw [HI.out, hd, List.find?_cons, hn]))
      have hel : (decPts Φ)[k]? = some (Sp.pts (fld0 x)) := by
        unfold decPts
        rw [List.getElem?_map, List.getElem?_eq_getElem hlt, hx]
        rfl
      have hll := (Hok.out.dec x hmem).len
      have Hpl := Lib.hid (pts_len (fld0 x))
      clear hRr hx hu e0 e1 e2 hd hmem hfld HI
      by_cases h1 : (x.lo : Int) ≤ r
      · by_cases h2 : r ≤ (x.hi : Int)
        · have Hf := Lib.hid (show PR = (Sp.pts (fld0 x)).map fun n : Nat => (n : Int) by
            rw [HPR.out]
            unfold partsR
            rw [Hhit.out (by unfold inRec2; rw [decide_eq_true h1, decide_eq_true h2]; rfl)])
          have d1 := decide_eq_true (show r ≥ (x.lo : Int) from h1)
          have d2 := decide_eq_true h2
          clear Hmiss Hhit HPR
          have hpl := Hpl.out
          obtain ⟨l, hl⟩ : ∃ l, l = Sp.pts (fld0 x) := ⟨_, rfl⟩
          rw [← hl] at hel Hf hpl
          have hrowP := hPr.row
          rw [hdl] at hrowP
          obtain ⟨gp, capp, hv, _, _, _, _⟩ := own_form hrowP (by omega)
          injection hv with hA hn0 hc0
          subst hA hc0
          obtain ⟨y, hy⟩ : ∃ y, y = u7[k]'(by rw [← hPr.len, hdl]; exact hlt) := ⟨_, rfl⟩
          have hrow := hPr.one k l y hel (by rw [hy]; exact List.getElem?_eq_getElem _)
          have hcy := own_cell hrowP k y (by rw [hy]; exact List.getElem?_eq_getElem _)
          obtain ⟨Ay, cy, rfl⟩ := own_slice hrow
          have hT2 := (HT.out.below HB.out).below hbx
          have hrow2 := own_below hrow hbx
          have hcy2 := cell_later hbx hcy
          clear hy hrow hcy hPr hrowP hl
          go_upto_region 5 with fail
          generalize wr.alloc _ = W at *
          have hby := alloc_below W (Obj.cells #[] 3)
          have z7 : (W.alloc (Obj.cells #[] 3)).cell? ⟨b, 7, none⟩ = some (.slice (some ⟨gp, 0, none⟩) Φ.dec.length c7) := (hT2.below hby).cell 7
          have zy := cell_later hby hcy2
          have Hrow := Lib.hid (own_below hrow2 hby)
          have hn9 : Ay = none → l.length = 0 ∧ cy = 0 := by
            intro e
            rcases hrow2.2 with ⟨h, h'⟩ | ⟨g', cap', cur, h, _⟩
            · injection h with _ _ h3
              exact ⟨h', h3⟩
            · rw [e] at h; injection h with h _ _; cases h
          have Hn9 := Lib.hid hn9
          have hnw : ∀ ad, Ay = some ad → ∀ j u, (intsR l)[j]? = some u → (W.alloc (Obj.cells #[] 3)).cell? (ad.add j) = some u := own_news Hrow.out
          have Hnw := Lib.hid hnw
          have HBy := Lib.hid (HBx.out.trans (hby.mono HBx.out.size))
          have Hs := Lib.hid HBx.out.size
          have Hon := Lib.hid (own_none W 3 w.heap.size HBx.out.size)
          clear hby hT2 hrow2 hcy2 hn9 hnw hel hbx c0 c1 c2
          go_wp2_with (at_builtin; refine wp_append_more (W.alloc (Obj.cells #[] 3)) slIntR rfl (.tmp 27) (.tmp 34) rfl w.heap.size _ 0 [] rfl Hon.out Ay l.length cy (intsR l) rfl Hn9.out (by simp [intsR]) Hnw.out (by intro u hu; unfold intsR at hu; obtain ⟨_, _, rfl⟩ := List.mem_map.1 hu; rfl) (by omega) HBy.out.size ?_; intro v' w3 hown hg)
          go_ret
          refine ⟨v', rfl, ?_, ?_⟩
          · rw [Hf.out]
            unfold IntsAt
            rw [← intsR_intz, List.length_map]
            simpa using hown
          · exact HBy.out.grown hg (by have := HBy.out.size; omega) (fun k hk => Option.some.inj (show some W.heap.size = some k from hk) ▸ Hs.out)
        · have Hf := Lib.hid (Hmiss.out (by unfold inRec2; rw [decide_eq_false h2, Bool.and_false]))
          have d1 := decide_eq_true (show r ≥ (x.lo : Int) from h1)
          have d2 := decide_eq_false h2
          clear Hmiss Hhit hel hPr
          go_wp2_with fail
          go_roundw
          case rel => exact ⟨k + 1, by omega, by go_num, Hf, HBx⟩
          case measure => simp [intOf]; omega
      · have Hf := Lib.hid (Hmiss.out (by unfold inRec2; rw [decide_eq_false h1, Bool.false_and]))
        have d1 := decide_eq_false (show ¬ r ≥ (x.lo : Int) from h1)
        clear Hmiss Hhit hel hPr
        go_wp2_with fail
        go_roundw
        case rel => exact ⟨k + 1, by omega, by go_num, Hf, HBx⟩
        case measure => simp [intOf]; omega
    · obtain rfl : k = Φ.dec.length := by omega
      have Hf := Lib.hid (show PR = [] by rw [HPR.out]; unfold partsR; rw [HI.out, List.drop_length]; rfl)
      clear HI HPR
      go_wp2_with fail
      go_ret
      exact ⟨_, rfl, by rw [Hf.out]; exact ⟨rfl, .inl ⟨rfl, rfl⟩⟩, HB.out⟩
set_option maxRecDepth 100000 in
set_option maxHeartbeats 3200000 in
theorem fold_ref (h : RefAt w B b Φ) (hok : FilesOk Φ) (r : Int) (full : Bool) : Calls Tryz.prog 42 #[.pointer (some ⟨b, 0, none⟩), .int .i64 r, .bool full] w (CloneSaid (foldR Φ full r) w) := by
  obtain ⟨v0, v1, v2, v3, v4, v5, v6, v7, v8, f0, f1, f2, f3, f4, f5, f6, U7, U8, h0, h1, h2, h3, h4, h5, h6, h7, h8, h9⟩ := h.all
  obtain ⟨A6, c6, rfl⟩ := own_slice h7.row
  obtain ⟨A8, c8, rfl⟩ := own_slice h9.row
  have hdl : (folPts Φ).length = Φ.fol.length := by unfold folPts; rw [List.length_map]
  have hlen := hok.foll.le
  rw [hdl] at h0 h9
  have HT := Lib.hid h0
  have HR := Lib.hid h7
  have HP := Lib.hid h9
  have Hok := Lib.hid hok
  have z6 : w.cell? ⟨b, 6, none⟩ = some (.slice A6 Φ.fol.length c6) := h0.cell 6
  obtain ⟨PR, hPR⟩ : ∃ PR, PR = foldR Φ full r := ⟨_, rfl⟩
  rw [← hPR]
  have HPR := Lib.hid hPR
  clear h0 h1 h2 h3 h4 h5 h6 h7 h8 h9 h hok hPR
  go_enter Tryz.func42, Tryz.ntmps42
  go_wp2_with fail
  go_loopw [16] (fun i wr => ∃ k : Nat, k ≤ Φ.fol.length ∧ i = .int .i64 k ∧ Hid (Φ.fol.find? (inFold r full) = (Φ.fol.drop k).find? (inFold r full)) ∧ Hid (Below w.heap.size w wr)) (fun i _ => Φ.fol.length - (intOf i).toNat)
  case atStart => exact ⟨0, by omega, rfl, rfl, Below.refl _ _⟩
  case round =>
    obtain ⟨k, hk, rfl, HI, HB⟩ := hrel
    clear z6
    by_cases hlt : k < Φ.fol.length
    · have hRr := HR.out.below HB.out
      have hPr := HP.out.below HB.out
      obtain ⟨g0, cap0, hv, _, _, _, _⟩ := own_form hRr.row (by omega)
      injection hv with hA hn0 hc0
      subst hA hc0
      obtain ⟨u, hu⟩ : ∃ u, u = f6[k]'(by rw [← HR.out.len]; exact hlt) := ⟨_, rfl⟩
      obtain ⟨x, hx⟩ : ∃ x, x = Φ.fol[k] := ⟨_, rfl⟩
      obtain ⟨e0, e1, e2⟩ := recCells_get Φ.fol f6 k HR.out.len hlt
      rw [← hx] at e0 e1
      rw [← hu] at e2
      have c0 := own_cell hRr.row _ _ e0
      have c1 := own_cell hRr.row _ _ e1
      have c2 := own_cell hRr.row _ _ e2
      have hfld := hRr.fld k x u (by rw [hx]; exact List.getElem?_eq_getElem hlt) (by rw [hu]; exact List.getElem?_eq_getElem _)
      have hd : Φ.fol.drop k = x :: Φ.fol.drop (k + 1) := by rw [hx]; exact List.drop_eq_getElem_cons hlt
      have hmem : x ∈ Φ.fol := by rw [hx]; exact List.getElem_mem _
      have hfo := Hok.out.fol x hmem
      obtain ⟨a', b', l', hxf⟩ := hfo.two
      have hxn : 0 < x.fields.length := by rw [hxf]; simp
      have hst0 : (strVs x.fields)[0]? = some (.string ⟨(fld0 x).toArray⟩) := by
        unfold fld0 strVs
        rw [hxf]
        rfl
      obtain ⟨gx, cu, rfl, _, _, hxm, hxc⟩ := own_form hfld hxn
      have hxl : x.fields.length ≤ 9223372036854775807 := by unfold maxLen at hxc; omega
      have hbx := alloc_below wr (Obj.cells #[Value.int IntKind.i64 x.lo, Value.int IntKind.i64 x.hi, Value.slice (some ⟨gx, 0, none⟩) x.fields.length cu] 81)
      have hXb : Blk (wr.alloc (Obj.cells #[Value.int IntKind.i64 x.lo, Value.int IntKind.i64 x.hi, Value.slice (some ⟨gx, 0, none⟩) x.fields.length cu] 81)) wr.heap.size 81 #[Value.int IntKind.i64 x.lo, Value.int IntKind.i64 x.hi, Value.slice (some ⟨gx, 0, none⟩) x.fields.length cu] := row_new _ _
      have hst : (wr.alloc (Obj.cells #[Value.int IntKind.i64 x.lo, Value.int IntKind.i64 x.hi, Value.slice (some ⟨gx, 0, none⟩) x.fields.length cu] 81)).cell? ⟨gx, 0, none⟩ = some (.string ⟨(fld0 x).toArray⟩) := own_cell (own_below hfld hbx) _ _ hst0
      obtain ⟨S, hS⟩ : ∃ S : ByteArray, S = ⟨(fld0 x).toArray⟩ := ⟨_, rfl⟩
      have hSl : S.toList = fld0 x := by rw [hS]; exact toBl _
      rw [← hS] at hst
      have HBx := Lib.hid (HB.out.trans (hbx.mono HB.out.size))
      have Hmiss := Lib.hid (fun hn : inFold r full x = false => (show Φ.fol.find? (inFold r full) = (Φ.fol.drop (k + 1)).find? (inFold r full) by rw [HI.out, hd, List.find?_cons, hn]))
      have Hhit := Lib.hid (fun hn : inFold r full x = true => (show Φ.fol.find? (inFold r full) = some x by rw [HI.out, hd, List.find?_cons, hn]))
      have hel : (folPts Φ)[k]? = some (Sp.pts (fld1 x)) := by
        unfold folPts
        rw [List.getElem?_map, List.getElem?_eq_getElem hlt, hx]
        rfl
      have hll := hfo.len
      have hxhi := hfo.hi
      have Hne := Lib.hid hfo.pts
      have Hpl := Lib.hid (pts_len (fld1 x))
      clear hRr hx hu e0 e1 e2 hd hmem hfld HI hfo hxf hst0 hS hxm hxc
      by_cases h1 : (x.lo : Int) ≤ r
      · have d1 := decide_eq_false (show ¬ r < (x.lo : Int) by omega)
        by_cases h2 : r ≤ (x.hi : Int)
        · have d2 := decide_eq_false (show ¬ r > (x.hi : Int) by omega)
          have hin : inRec2 r x = true := by unfold inRec2; rw [decide_eq_true h1, decide_eq_true h2]; rfl
          cases hsk : skips x full with
          | false =>
            have Hf := Lib.hid (show PR = (bump (Sp.pts (fld1 x)) (r - x.lo).toNat).map fun n : Nat => (n : Int) by
              rw [HPR.out]
              unfold foldR
              rw [Hhit.out (by unfold inFold; rw [hin, hsk]; rfl)])
            have hcase : (S.toList == [67]) = true ∨ ((S.toList == [67]) = false ∧ (S.toList == [70]) = true ∧ full = true) ∨ ((S.toList == [67]) = false ∧ (S.toList == [70]) = false ∧ full = false) := by
              rw [hSl]
              unfold skips at hsk
              by_cases e : fld0 x = [67]
              · left; rw [e]; rfl
              · right
                rw [decide_eq_true e, Bool.true_and] at hsk
                have e2 : (fld0 x == [67]) = false := beq_eq_false_iff_ne.2 e
                cases e3 : (fld0 x == [70]) <;> cases full <;> simp_all
            clear Hmiss Hhit HPR hsk hin hSl
            have hpl := Hpl.out
            obtain ⟨l, hl⟩ : ∃ l, l = Sp.pts (fld1 x) := ⟨_, rfl⟩
            have hle := pts_le (fld1 x)
            have hne := Hne.out
            rw [← hl] at hel Hf hpl hle hne
            obtain ⟨n0, l0, rfl⟩ := List.exists_cons_of_ne_nil hne
            have hn0 := hle n0 List.mem_cons_self
            have hrowP := hPr.row
            rw [hdl] at hrowP
            obtain ⟨gp, capp, hv, _, _, _, _⟩ := own_form hrowP (by omega)
            injection hv with hA hn0' hc0
            subst hA hc0
            obtain ⟨y, hy⟩ : ∃ y, y = U8[k]'(by rw [← hPr.len, hdl]; exact hlt) := ⟨_, rfl⟩
            have hrow := hPr.one k (n0 :: l0) y hel (by rw [hy]; exact List.getElem?_eq_getElem _)
            have hcy := own_cell hrowP k y (by rw [hy]; exact List.getElem?_eq_getElem _)
            obtain ⟨Ay, cy, rfl⟩ := own_slice hrow
            have hT2 := (HT.out.below HB.out).below hbx
            have hrow2 := own_below hrow hbx
            have hcy2 := cell_later hbx hcy
            have e5 : (intsR (n0 :: l0)).set 0 (.int .i64 ((n0 : Int) + (r - x.lo))) = intz ((bump (n0 :: l0) (r - x.lo).toNat).map fun n : Nat => (n : Int)) := by
              unfold intsR intz bump
              simp only [List.map_cons, List.set_cons_zero, List.map_map]
              congr 2
              omega
            have He5 := Lib.hid e5
            have b1 : IntKind.i64.wrap (r - x.lo) = r - x.lo := by rw [IntKind.wrap_i64]; omega
            have b2 : IntKind.i64.wrap ((n0 : Int) + (r - x.lo)) = (n0 : Int) + (r - x.lo) := by rw [IntKind.wrap_i64]; omega
            have b3 : (0 : Int) < (l0.length : Int) + 1 := by omega
            clear hy hrow hcy hPr hrowP hl hle hne e5
            rcases hcase with k1 | ⟨k1, k2, rfl⟩ | ⟨k1, k2, rfl⟩
            all_goals
              go_upto_region 6 with fail
              generalize wr.alloc _ = W at *
              generalize wr.heap.size = xb at *
              have hby := alloc_below W (Obj.cells #[] 3)
              have z8 : (W.alloc (Obj.cells #[] 3)).cell? ⟨b, 8, none⟩ = some (.slice (some ⟨gp, 0, none⟩) Φ.fol.length c8) := (hT2.below hby).cell 8
              have zy := cell_later hby hcy2
              have Hrow := Lib.hid (own_below hrow2 hby)
              have hn9 : Ay = none → (n0 :: l0).length = 0 ∧ cy = 0 := by
                intro e
                rcases hrow2.2 with ⟨h, h'⟩ | ⟨g', cap', cur, h, _⟩
                · injection h with _ _ h3
                  exact ⟨h', h3⟩
                · rw [e] at h; injection h with h _ _; cases h
              have Hn9 := Lib.hid hn9
              have hnw : ∀ ad, Ay = some ad → ∀ j u, (intsR (n0 :: l0))[j]? = some u → (W.alloc (Obj.cells #[] 3)).cell? (ad.add j) = some u := own_news Hrow.out
              have Hnw := Lib.hid hnw
              have HBy := Lib.hid (HBx.out.trans (hby.mono HBx.out.size))
              have Hs := Lib.hid HBx.out.size
              have Hon := Lib.hid (own_none W 3 w.heap.size HBx.out.size)
              have HXb := Lib.hid (hXb.below hby)
              have Hxl := Lib.hid (heap_lt hXb)
              clear hby hT2 hrow2 hcy2 hn9 hnw hel hbx c0 c1 c2 hXb hst
              go_wp2_with (at_builtin; refine wp_append_more (W.alloc (Obj.cells #[] 3)) slIntR rfl (.tmp 45) (.tmp 52) rfl w.heap.size _ 0 [] rfl Hon.out Ay (n0 :: l0).length cy (intsR (n0 :: l0)) rfl Hn9.out (by simp [intsR]) Hnw.out (by intro u hu; unfold intsR at hu; obtain ⟨_, _, rfl⟩ := List.mem_map.1 hu; rfl) (by omega) HBy.out.size ?_; intro v' w3 hown hg; rw [List.nil_append, Nat.zero_add, show (n0 :: l0).length = l0.length + 1 from rfl] at hown; obtain ⟨g3, c3, rfl, hg31, hg32, hg33, hg34⟩ := own_form hown (by omega); have q0 : w3.drew.cell? ⟨g3, 0, none⟩ = some (.int .i64 n0) := own_cell hown 0 _ rfl; have q1 : w3.drew.frozen? ⟨g3, 0, none⟩ = false := own_free hown 0; have q2 : w3.drew.cell? ⟨xb, 0, none⟩ = some (.int .i64 x.lo) := (HXb.out.grown hg (fun e => by have e : xb = W.heap.size := Option.some.inj e; have := Hxl.out; omega)).cell 0; have HB3 := Lib.hid (HBy.out.grown hg (by have := HBy.out.size; omega) (fun k hk => Option.some.inj (show some W.heap.size = some k from hk) ▸ Hs.out)); have hv5 := own_set (j := 0) (u := .int .i64 ((n0 : Int) + (r - x.lo))) (own_below hown (below_drewN w3 1)) (by omega); have HV5 := Lib.hid hv5; have HB5 := Lib.hid ((HB3.out.trans ((below_drewN w3 1).mono HB3.out.size)).setCell (p := ⟨g3, 0, none⟩) hg31 (.int .i64 ((n0 : Int) + (r - x.lo)))); clear hv5 hown hg HB3 hg31 hg32 hg33 hg34)
              go_still_tail 9, (by kernel_rfl)
              change wpList _ _ _ _ _ w3.drew
              rw [show w3.drewN 1 = w3.drew from rfl] at HV5 HB5
              generalize w3.drew = W4 at *
              go_wp2_with fail
              go_ret
              refine ⟨_, rfl, ?_, HB5.out⟩
              rw [Hf.out]
              have hv := HV5.out
              rw [He5.out] at hv
              unfold IntsAt
              rw [List.length_map, bump_len]
              exact hv
          | true =>
            have Hf := Lib.hid (Hmiss.out (by unfold inFold; rw [hsk, Bool.not_true, Bool.and_false]))
            have hcase : ((S.toList == [67]) = false ∧ (S.toList == [70]) = true ∧ full = false) ∨ ((S.toList == [67]) = false ∧ (S.toList == [70]) = false ∧ full = true) := by
              rw [hSl]
              unfold skips at hsk
              rw [Bool.and_eq_true] at hsk
              have e2 : (fld0 x == [67]) = false := beq_eq_false_iff_ne.2 (of_decide_eq_true hsk.1)
              have e4 := hsk.2
              cases e3 : (fld0 x == [70]) <;> cases full <;> simp_all
            clear Hmiss Hhit hel hPr hXb hsk hin hSl Hne
            rcases hcase with ⟨k1, k2, rfl⟩ | ⟨k1, k2, rfl⟩
            all_goals
              go_wp2_with fail
              go_roundw
              case rel => exact ⟨k + 1, by omega, by go_num, Hf, HBx⟩
              case measure => simp [intOf]; omega
        · have Hf := Lib.hid (Hmiss.out (by unfold inFold inRec2; rw [decide_eq_false h2, Bool.and_false, Bool.false_and]))
          have d2 := decide_eq_true (show r > (x.hi : Int) by omega)
          clear Hmiss Hhit hel hPr hXb hSl Hne
          go_wp2_with fail
          go_roundw
          case rel => exact ⟨k + 1, by omega, by go_num, Hf, HBx⟩
          case measure => simp [intOf]; omega
      · have Hf := Lib.hid (Hmiss.out (by unfold inFold inRec2; rw [decide_eq_false h1, Bool.false_and, Bool.false_and]))
        have d1 := decide_eq_true (show r < (x.lo : Int) by omega)
        clear Hmiss Hhit hel hPr hXb hSl Hne
        go_wp2_with fail
        go_roundw
        case rel => exact ⟨k + 1, by omega, by go_num, Hf, HBx⟩
        case measure => simp [intOf]; omega
    · obtain rfl : k = Φ.fol.length := by omega
      have Hf := Lib.hid (show PR = [r] by rw [HPR.out]; unfold foldR; rw [HI.out, List.drop_length]; rfl)
      clear HI HPR
      have hbz := alloc_below wr (Obj.cells #[Value.int IntKind.i64 r] 3)
      have HBz := Lib.hid (HB.out.trans (hbz.mono HB.out.size))
      have Hon := Lib.hid (show (wr.alloc (Obj.cells #[Value.int IntKind.i64 r] 3)).ownsRow w.heap.size 3 1 (.slice (some ⟨wr.heap.size, 0, none⟩) 1 1) 1 [.int .i64 r] from ⟨rfl, .inr ⟨wr.heap.size, 1, #[.int .i64 r], rfl, HB.out.size, row_new _ _, Nat.le_refl _, by unfold maxLen; omega, rfl, rfl⟩⟩)
      clear hbz
      go_wp2_with fail
      go_ret
      exact ⟨_, rfl, by rw [Hf.out]; exact Hon.out, HBz.out⟩
end
end Go.Proofs.YtpmbebofinlmmaaGreatDoor
