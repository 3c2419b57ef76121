/- rubricatorref06: Cluster, Parts, Fold. -/
import Derived.Test.YthoegenipbohmaaGreatDoorRef6N
import Derived.Test.YthoegenipbohmaaGreatDoorClu
import Derived.Test.YthoegenipbohmaaGreatDoorAppM
import Derived.Test.YthoegenipbohmaaGreatDoorAcc2M
import Derived.StillTailTactics
namespace Go.Proofs.YthoegenipbohmaaGreatDoor
open Go.RowKit
set_option linter.unusedVariables false
set_option linter.unusedSimpArgs false

theorem intsR_intz (l : List Nat) : intsR l = intz (l.map fun n : Nat => (n : Int)) := by
  unfold intsR intz
  rw [List.map_map]
  rfl
def partsR (Φ : Files) (r : Int) : List Int := match Φ.dec.find? (inRec2 r) with
  | some x => (Sp.pts (fld0 x)).map fun n : Nat => (n : Int)
  | none => []
def inFold (r : Int) (full : Bool) (x : Rec) : Bool := inRec2 r x && !skips x full
def foldR (Φ : Files) (full : Bool) (r : Int) : List Int := match Φ.fol.find? (inFold r full) with
  | some x => (bump (Sp.pts (fld1 x)) (r - x.lo).toNat).map fun n : Nat => (n : Int)
  | none => [r]
section
variable {w : World} {B b : Nat} {Φ : Files}
theorem own_news {w : World} {B n c : Nat} {e : TypeId} {A : Option Addr} {xs : List Value} (h : w.ownsRow B e 1 (.slice A n c) n xs) : ∀ ad, A = some ad → ∀ j u, xs[j]? = some u → w.cell? (ad.add j) = some u := by
  rintro ad rfl j u hj
  rcases h.2 with ⟨h', _⟩ | ⟨g', cap', cur, h', _⟩
  · cases h'
  · injection h' with h1 _ _
    cases h1
    exact h.cells (g := g') rfl j u hj
theorem own_none (W : World) (e : TypeId) (B : Nat) (hB : B ≤ W.heap.size) : (W.alloc (.cells #[] e)).ownsRow B e 1 (.slice (some ⟨W.heap.size, 0, none⟩) 0 0) 0 [] :=
  ⟨rfl, .inr ⟨W.heap.size, 0, #[], rfl, hB, row_new _ _, Nat.le_refl _, Nat.zero_le _, rfl, rfl⟩⟩
set_option maxRecDepth 100000 in
set_option maxHeartbeats 1600000 in
theorem parts_ref (h : RefAt w B b Φ) (hok : FilesOk Φ) (r : Int) : Calls Tryz.prog 92 #[.pointer (some ⟨b, 0, none⟩), .int .i64 r] w (CloneSaid (partsR Φ r) w) := by
  obtain ⟨v0, v1, v2, v3, v4, v5, v6, v7, v8, f0, f1, f2, f3, f4, f5, f6, u7, u8, h0, h1, h2, h3, h4, h5, h6, h7, h8, h9⟩ := h.all
  obtain ⟨A5, c5, rfl⟩ := own_slice h6.row
  obtain ⟨A7, c7, rfl⟩ := own_slice h8.row
  have hdl : (decPts Φ).length = Φ.dec.length := by unfold decPts; rw [List.length_map]
  have hlen := hok.decl.le
  rw [hdl] at h0 h8
  have HT := Lib.hid h0
  have HR := Lib.hid h6
  have HP := Lib.hid h8
  have Hok := Lib.hid hok
  have z5 : w.cell? ⟨b, 5, none⟩ = some (.slice A5 Φ.dec.length c5) := h0.cell 5
  obtain ⟨PR, hPR⟩ : ∃ PR, PR = partsR Φ r := ⟨_, rfl⟩
  rw [← hPR]
  have HPR := Lib.hid hPR
  clear h0 h1 h2 h3 h4 h5 h6 h7 h8 h9 h hok hPR
  go_enter Tryz.func92, Tryz.ntmps92
  go_wp2_with fail
  go_loopw [12] (fun i wr => ∃ k : Nat, k ≤ Φ.dec.length ∧ i = .int .i64 k ∧ Hid (Φ.dec.find? (inRec2 r) = (Φ.dec.drop k).find? (inRec2 r)) ∧ Hid (Below w.heap.size w wr)) (fun i _ => Φ.dec.length - (intOf i).toNat)
  case atStart => exact ⟨0, by omega, rfl, rfl, Below.refl _ _⟩
  case round =>
    obtain ⟨k, hk, rfl, HI, HB⟩ := hrel
    clear z5
    by_cases hlt : k < Φ.dec.length
    · have hRr := HR.out.below HB.out
      have hPr := HP.out.below HB.out
      obtain ⟨g0, cap0, hv, _, _, _, _⟩ := own_form hRr.row (by omega)
      injection hv with hA hn0 hc0
      subst hA hc0
      obtain ⟨u, hu⟩ : ∃ u, u = f5[k]'(by rw [← HR.out.len]; exact hlt) := ⟨_, rfl⟩
      obtain ⟨x, hx⟩ : ∃ x, x = Φ.dec[k] := ⟨_, rfl⟩
      obtain ⟨e0, e1, e2⟩ := recCells_get Φ.dec f5 k HR.out.len hlt
      rw [← hx] at e0 e1
      rw [← hu] at e2
      have c0 := own_cell hRr.row _ _ e0
      have c1 := own_cell hRr.row _ _ e1
      have c2 := own_cell hRr.row _ _ e2
      have hfld := hRr.fld k x u (by rw [hx]; exact List.getElem?_eq_getElem hlt) (by rw [hu]; exact List.getElem?_eq_getElem _)
      have hd : Φ.dec.drop k = x :: Φ.dec.drop (k + 1) := by rw [hx]; exact List.drop_eq_getElem_cons hlt
      have hmem : x ∈ Φ.dec := by rw [hx]; exact List.getElem_mem _
      obtain ⟨Au, cu, rfl⟩ := own_slice hfld
      have hbx := alloc_below wr (Obj.cells #[Value.int IntKind.i64 x.lo, Value.int IntKind.i64 x.hi, Value.slice Au x.fields.length cu] 94)
      have HBx := Lib.hid (HB.out.trans (hbx.mono HB.out.size))
      have Hmiss := Lib.hid (fun hn : inRec2 r x = false => (show Φ.dec.find? (inRec2 r) = (Φ.dec.drop (k + 1)).find? (inRec2 r) by rw [HI.out, hd, List.find?_cons, hn]))
      have Hhit := Lib.hid (fun hn : inRec2 r x = true => (show Φ.dec.find? (inRec2 r) = some x by rw [HI.out, hd, List.find?_cons, hn]))
      have hel : (decPts Φ)[k]? = some (Sp.pts (fld0 x)) := by
        unfold decPts
        rw [List.getElem?_map, List.getElem?_eq_getElem hlt, hx]
        rfl
      have hll := (Hok.out.dec x hmem).len
      have Hpl := Lib.hid (pts_len (fld0 x))
      clear hRr hx hu e0 e1 e2 hd hmem hfld HI
      by_cases h1 : (x.lo : Int) ≤ r
      · by_cases h2 : r ≤ (x.hi : Int)
        · have Hf := Lib.hid (show PR = (Sp.pts (fld0 x)).map fun n : Nat => (n : Int) by
            rw [HPR.out]
            unfold partsR
            rw [Hhit.out (by unfold inRec2; rw [decide_eq_true h1, decide_eq_true h2]; rfl)])
          have d1 := decide_eq_true (show r ≥ (x.lo : Int) from h1)
          have d2 := decide_eq_true h2
          clear Hmiss Hhit HPR
          have hpl := Hpl.out
          obtain ⟨l, hl⟩ : ∃ l, l = Sp.pts (fld0 x) := ⟨_, rfl⟩
          rw [← hl] at hel Hf hpl
          have hrowP := hPr.row
          rw [hdl] at hrowP
          obtain ⟨gp, capp, hv, _, _, _, _⟩ := own_form hrowP (by omega)
          injection hv with hA hn0 hc0
          subst hA hc0
          obtain ⟨y, hy⟩ : ∃ y, y = u7[k]'(by rw [← hPr.len, hdl]; exact hlt) := ⟨_, rfl⟩
          have hrow := hPr.one k l y hel (by rw [hy]; exact List.getElem?_eq_getElem _)
          have hcy := own_cell hrowP k y (by rw [hy]; exact List.getElem?_eq_getElem _)
          obtain ⟨Ay, cy, rfl⟩ := own_slice hrow
          have hT2 := (HT.out.below HB.out).below hbx
          have hrow2 := own_below hrow hbx
          have hcy2 := cell_later hbx hcy
          clear hy hrow hcy hPr hrowP hl
          go_upto_region 5 with fail
          generalize wr.alloc _ = W at *
          have hby := alloc_below W (Obj.cells #[] 3)
          have z7 : (W.alloc (Obj.cells #[] 3)).cell? ⟨b, 7, none⟩ = some (.slice (some ⟨gp, 0, none⟩) Φ.dec.length c7) := (hT2.below hby).cell 7
          have zy := cell_later hby hcy2
          have Hrow := Lib.hid (own_below hrow2 hby)
          have hn9 : Ay = none → l.length = 0 ∧ cy = 0 := by
            intro e
            rcases hrow2.2 with ⟨h, h'⟩ | ⟨g', cap', cur, h, _⟩
            · injection h with _ _ h3
              exact ⟨h', h3⟩
            · rw [e] at h; injection h with h _ _; cases h
          have Hn9 := Lib.hid hn9
          have hnw : ∀ ad, Ay = some ad → ∀ j u, (intsR l)[j]? = some u → (W.alloc (Obj.cells #[] 3)).cell? (ad.add j) = some u := own_news Hrow.out
          have Hnw := Lib.hid hnw
          have HBy := Lib.hid (HBx.out.trans (hby.mono HBx.out.size))
          have Hs := Lib.hid HBx.out.size
          have Hon := Lib.hid (own_none W 3 w.heap.size HBx.out.size)
          clear hby hT2 hrow2 hcy2 hn9 hnw hel hbx c0 c1 c2
          go_wp2_with (at_builtin; refine wp_append_more (W.alloc (Obj.cells #[] 3)) slIntR rfl (.tmp 27) (.tmp 34) rfl w.heap.size _ 0 [] rfl Hon.out Ay l.length cy (intsR l) rfl Hn9.out (by simp [intsR]) Hnw.out (by intro u hu; unfold intsR at hu; obtain ⟨_, _, rfl⟩ := List.mem_map.1 hu; rfl) (by omega) HBy.out.size ?_; intro v' w3 hown hg)
          go_ret
          refine ⟨v', rfl, ?_, ?_⟩
          · rw [Hf.out]
            unfold IntsAt
            rw [← intsR_intz, List.length_map]
            simpa using hown
          · exact HBy.out.grown hg (by have := HBy.out.size; omega) (fun k hk => Option.some.inj (show some W.heap.size = some k from hk) ▸ Hs.out)
        · have Hf := Lib.hid (Hmiss.out (by unfold inRec2; rw [decide_eq_false h2, Bool.and_false]))
          have d1 := decide_eq_true (show r ≥ (x.lo : Int) from h1)
          have d2 := decide_eq_false h2
          clear Hmiss Hhit hel hPr
          go_wp2_with fail
          go_roundw
          case rel => exact ⟨k + 1, by omega, by go_num, Hf, HBx⟩
          case measure => simp [intOf]; omega
      · have Hf := Lib.hid (Hmiss.out (by unfold inRec2; rw [decide_eq_false h1, Bool.false_and]))
        have d1 := decide_eq_false (show ¬ r ≥ (x.lo : Int) from h1)
        clear Hmiss Hhit hel hPr
        go_wp2_with fail
        go_roundw
        case rel => exact ⟨k + 1, by omega, by go_num, Hf, HBx⟩
        case measure => simp [intOf]; omega
    · obtain rfl : k = Φ.dec.length := by omega
      have Hf := Lib.hid (show PR = [] by rw [HPR.out]; unfold partsR; rw [HI.out, List.drop_length]; rfl)
      clear HI HPR
      go_wp2_with fail
      go_ret
      exact ⟨_, rfl, by rw [Hf.out]; exact ⟨rfl, .inl ⟨rfl, rfl⟩⟩, HB.out⟩
end
end Go.Proofs.YthoegenipbohmaaGreatDoor
