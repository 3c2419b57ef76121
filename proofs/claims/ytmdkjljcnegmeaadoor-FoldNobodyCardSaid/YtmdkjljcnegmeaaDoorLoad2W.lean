/- props.Load. -/
import Derived.Test.YtmdkjljcnegmeaaDoorLoad2A
namespace Go.Proofs.YtmdkjljcnegmeaaDoor
open Go.RowKit
set_option linter.unusedVariables false
set_option linter.unusedSimpArgs false

def LoadedSaid (Φ : Files) (w : World) (e : Ending) (w' : World) : Prop := e = .returned (.pointer (some ⟨w.heap.size + 3, 0, none⟩)) ∧ TabAt w' w.heap.size Φ ∧ Below w.heap.size w w'
set_option maxRecDepth 100000 in
set_option maxHeartbeats 3200000 in
theorem loaded_walk (Φ : Files) (hok : FilesOk Φ) (htx : TextsOk Φ) (w : World) (hE : Env w) (hT : EnvT w) (hgl : 1 < w.heap.size) :
    Calls Tryd.prog 9 #[] w (LoadedSaid Φ w) := by
  obtain ⟨x0, hx0, hl0⟩ := load_text htx.cat hok.cat
  obtain ⟨x1, hx1, hl1⟩ := load_text htx.comb hok.comb
  obtain ⟨x2, hx2, hl2⟩ := load_text htx.scr hok.scr
  obtain ⟨x3, hx3, hl3⟩ := load_text htx.clu hok.clu
  obtain ⟨x4, hx4, hl4⟩ := load_text htx.word hok.word
  obtain ⟨x5, hx5, hl5⟩ := htx.dec
  obtain ⟨x6, hx6, hl6⟩ := htx.fol
  have X0 := Lib.hid hx0
  have X1 := Lib.hid hx1
  have X2 := Lib.hid hx2
  have X3 := Lib.hid hx3
  have X4 := Lib.hid hx4
  have X5 := Lib.hid hx5
  have X6 := Lib.hid hx6
  have L0 := Lib.hid hl0
  have L1 := Lib.hid hl1
  have L2 := Lib.hid hl2
  have L3 := Lib.hid hl3
  have L4 := Lib.hid hl4
  have L5 := Lib.hid hl5
  have L6 := Lib.hid hl6
  have HE := Lib.hid hE
  have HT := Lib.hid hT
  have Hok := Lib.hid hok
  clear hx0 hx1 hx2 hx3 hx4 hx5 hx6 hl0 hl1 hl2 hl3 hl4 hl5 hl6 hE hT hok htx
  have hmm := @run_makeMap Tryd.prog
  go_enter Tryd.func9, Tryd.ntmps9
  go_wp2_with fail
  have e3 : w.heap.size + 1 + 1 + 1 = w.heap.size + 3 := rfl
  have e2 : w.heap.size + 1 + 1 = w.heap.size + 2 := rfl
  rw [e3, e2]
  have hS := stg_start w #[Value.pointer none, Value.pointer none, Value.pointer none, Value.pointer none, Value.pointer none, Value.slice none 0 0, Value.slice none 0 0, Value.map (some w.heap.size), Value.map (some (w.heap.size + 1)), Value.map (some (w.heap.size + 2))]
  generalize (((w.alloc (Obj.map #[] 0)).alloc (Obj.map #[] 0)).alloc (Obj.map #[] 0)).alloc (Obj.cells #[Value.pointer none, Value.pointer none, Value.pointer none, Value.pointer none, Value.pointer none, Value.slice none 0 0, Value.slice none 0 0, Value.map (some w.heap.size), Value.map (some (w.heap.size + 1)), Value.map (some (w.heap.size + 2))] 39) = W0 at hS ⊢
  have HS := Lib.hid hS
  clear hS hmm e3 e2
  refine (X0.out _).mono ?_
  rintro e w' ⟨rfl, rfl⟩
  go_wp2_with fail
  refine (L0.out _ (HE.out.below HS.out.B)).mono ?_
  intro e w1 hs
  obtain ⟨p0, A5, n5, c5, A6, n6, c6, rfl, hS1, hM1⟩ := HS.out.first hs
  have hM2 := hM1.set 0 (Value.pointer (some ⟨p0, 0, none⟩))
  have hM3 := hM2.set 5 (Value.slice A5 n5 c5)
  have hM4 := hM3.set 6 (Value.slice A6 n6 c6)
  have s0 : w1.cell? ⟨w.heap.size + 3, 0, none⟩ = some (.pointer none) := hM1.s.tab.cell 0
  have t0 := hM1.s.tab.free 0
  have s5 := hM2.s.tab.cell 5
  have t5 := hM2.s.tab.free 5
  have s6 := hM3.s.tab.cell 6
  have t6 := hM3.s.tab.free 6
  have HM := Lib.hid (show Mid Φ w _ #[Value.pointer (some ⟨p0, 0, none⟩), Value.pointer none, Value.pointer none, Value.pointer none, Value.pointer none, Value.slice A5 n5 c5, Value.slice A6 n6 c6, Value.map (some w.heap.size), Value.map (some (w.heap.size + 1)), Value.map (some (w.heap.size + 2))] [(p0, Φ.cat)] (Value.slice A5 n5 c5) (Value.slice A6 n6 c6) from hM4)
  clear hM1 hM2 hM3 hM4 hS1 HS hs
  go_wp2_with fail
  clear s0 t0 s5 t5 s6 t6
  generalize ((w1.setCell ⟨w.heap.size + 3, 0, none⟩ (Value.pointer (some ⟨p0, 0, none⟩))).setCell ⟨w.heap.size + 3, 5, none⟩ (Value.slice A5 n5 c5)).setCell ⟨w.heap.size + 3, 6, none⟩ (Value.slice A6 n6 c6) = V1 at *
  refine (X1.out _).mono ?_
  rintro e w' ⟨rfl, rfl⟩
  go_wp2_with fail
  refine (L1.out _ (HE.out.below HM.out.s.B)).mono ?_
  intro e w2 hs
  obtain ⟨p1, vv1, kv1, rfl, hM1⟩ := HM.out.step hs
  have hM2 := hM1.set 1 (Value.pointer (some ⟨p1, 0, none⟩))
  have s0 := hM1.s.tab.cell 1
  have t0 := hM1.s.tab.free 1
  replace HM := Lib.hid (show Mid Φ w _ #[Value.pointer (some ⟨p0, 0, none⟩), Value.pointer (some ⟨p1, 0, none⟩), Value.pointer none, Value.pointer none, Value.pointer none, Value.slice A5 n5 c5, Value.slice A6 n6 c6, Value.map (some w.heap.size), Value.map (some (w.heap.size + 1)), Value.map (some (w.heap.size + 2))] [(p0, Φ.cat), (p1, Φ.comb)] (Value.slice A5 n5 c5) (Value.slice A6 n6 c6) from hM2)
  clear hM1 hM2 hs
  go_wp2_with fail
  clear s0 t0
  generalize w2.setCell ⟨w.heap.size + 3, 1, none⟩ (Value.pointer (some ⟨p1, 0, none⟩)) = V2 at *
  refine (X2.out _).mono ?_
  rintro e w' ⟨rfl, rfl⟩
  go_wp2_with fail
  refine (L2.out _ (HE.out.below HM.out.s.B)).mono ?_
  intro e w3 hs
  obtain ⟨p2, vv2, kv2, rfl, hM1⟩ := HM.out.step hs
  have hM2 := hM1.set 2 (Value.pointer (some ⟨p2, 0, none⟩))
  have s0 := hM1.s.tab.cell 2
  have t0 := hM1.s.tab.free 2
  replace HM := Lib.hid (show Mid Φ w _ #[Value.pointer (some ⟨p0, 0, none⟩), Value.pointer (some ⟨p1, 0, none⟩), Value.pointer (some ⟨p2, 0, none⟩), Value.pointer none, Value.pointer none, Value.slice A5 n5 c5, Value.slice A6 n6 c6, Value.map (some w.heap.size), Value.map (some (w.heap.size + 1)), Value.map (some (w.heap.size + 2))] [(p0, Φ.cat), (p1, Φ.comb), (p2, Φ.scr)] (Value.slice A5 n5 c5) (Value.slice A6 n6 c6) from hM2)
  clear hM1 hM2 hs
  go_wp2_with fail
  clear s0 t0
  generalize w3.setCell ⟨w.heap.size + 3, 2, none⟩ (Value.pointer (some ⟨p2, 0, none⟩)) = V3 at *
  refine (X3.out _).mono ?_
  rintro e w' ⟨rfl, rfl⟩
  go_wp2_with fail
  refine (L3.out _ (HE.out.below HM.out.s.B)).mono ?_
  intro e w4 hs
  obtain ⟨p3, vv3, kv3, rfl, hM1⟩ := HM.out.step hs
  have hM2 := hM1.set 3 (Value.pointer (some ⟨p3, 0, none⟩))
  have s0 := hM1.s.tab.cell 3
  have t0 := hM1.s.tab.free 3
  replace HM := Lib.hid (show Mid Φ w _ #[Value.pointer (some ⟨p0, 0, none⟩), Value.pointer (some ⟨p1, 0, none⟩), Value.pointer (some ⟨p2, 0, none⟩), Value.pointer (some ⟨p3, 0, none⟩), Value.pointer none, Value.slice A5 n5 c5, Value.slice A6 n6 c6, Value.map (some w.heap.size), Value.map (some (w.heap.size + 1)), Value.map (some (w.heap.size + 2))] [(p0, Φ.cat), (p1, Φ.comb), (p2, Φ.scr), (p3, Φ.clu)] (Value.slice A5 n5 c5) (Value.slice A6 n6 c6) from hM2)
  clear hM1 hM2 hs
  go_wp2_with fail
  clear s0 t0
  generalize w4.setCell ⟨w.heap.size + 3, 3, none⟩ (Value.pointer (some ⟨p3, 0, none⟩)) = V4 at *
  refine (X4.out _).mono ?_
  rintro e w' ⟨rfl, rfl⟩
  go_wp2_with fail
  refine (L4.out _ (HE.out.below HM.out.s.B)).mono ?_
  intro e w5 hs
  obtain ⟨p4, vv4, kv4, rfl, hM1⟩ := HM.out.step hs
  have hM2 := hM1.set 4 (Value.pointer (some ⟨p4, 0, none⟩))
  have s0 := hM1.s.tab.cell 4
  have t0 := hM1.s.tab.free 4
  replace HM := Lib.hid (show Mid Φ w _ #[Value.pointer (some ⟨p0, 0, none⟩), Value.pointer (some ⟨p1, 0, none⟩), Value.pointer (some ⟨p2, 0, none⟩), Value.pointer (some ⟨p3, 0, none⟩), Value.pointer (some ⟨p4, 0, none⟩), Value.slice A5 n5 c5, Value.slice A6 n6 c6, Value.map (some w.heap.size), Value.map (some (w.heap.size + 1)), Value.map (some (w.heap.size + 2))] [(p0, Φ.cat), (p1, Φ.comb), (p2, Φ.scr), (p3, Φ.clu), (p4, Φ.word)] (Value.slice A5 n5 c5) (Value.slice A6 n6 c6) from hM2)
  clear hM1 hM2 hs
  go_wp2_with fail
  clear s0 t0
  generalize w5.setCell ⟨w.heap.size + 3, 4, none⟩ (Value.pointer (some ⟨p4, 0, none⟩)) = V5 at *
  clear X0 X1 X2 X3 X4 L0 L1 L2 L3 L4
  refine (X5.out _).mono ?_
  rintro e w' ⟨rfl, rfl⟩
  go_wp2_with fail
  refine (L5.out _ (HE.out.below HM.out.s.B)).mono ?_
  intro e w6 hs
  obtain ⟨vD, fvD, rfl, hR⟩ := HM.out.run hs
  obtain ⟨gd, cd, rfl, hgd1, hgd2, hgd3, hgd4⟩ := own_form hR.recs.row Hok.out.decl.pos
  obtain ⟨CS, hCS⟩ : ∃ CS, CS = #[Value.pointer (some ⟨p0, 0, none⟩), Value.pointer (some ⟨p1, 0, none⟩), Value.pointer (some ⟨p2, 0, none⟩), Value.pointer (some ⟨p3, 0, none⟩), Value.pointer (some ⟨p4, 0, none⟩), Value.slice A5 n5 c5, Value.slice A6 n6 c6, Value.map (some w.heap.size), Value.map (some (w.heap.size + 1)), Value.map (some (w.heap.size + 2))] := ⟨_, rfl⟩
  obtain ⟨LS, hLS⟩ : ∃ LS, LS = [(p0, Φ.cat), (p1, Φ.comb), (p2, Φ.scr), (p3, Φ.clu), (p4, Φ.word)] := ⟨_, rfl⟩
  rw [← hCS, ← hLS] at hR
  have hlen := hR.recs.len
  have cT7 : CS[7]? = some (Value.map (some w.heap.size)) := by rw [hCS]; rfl
  have HR := Lib.hid hR
  have HCS := Lib.hid hCS
  have HLS := Lib.hid hLS
  have HcT := Lib.hid cT7
  have hdl := Hok.out.decl.le
  clear hR hs X5 L5 HM hCS hLS cT7
  go_wp2_with fail
  go_loopw [75] (fun i wr => ∃ k : Nat, k ≤ Φ.dec.length ∧ i = .int .i64 k ∧ Hid (∃ c, c ≤ k * 1114112 ∧ Run Φ w wr CS LS (Value.slice A5 n5 c5) (Value.slice A6 n6 c6) Φ.dec (.slice (some ⟨gd, 0, none⟩) Φ.dec.length cd) fvD c (partsOf (Φ.dec.take k)) 0 (fun _ => none) 0 (fun _ => none))) (fun i _ => Φ.dec.length - (intOf i).toNat)
  case atStart => exact ⟨0, by omega, rfl, ⟨0, by omega, by show Run _ _ _ _ _ _ _ _ _ _ _ (partsOf (Φ.dec.take 0)) _ _ _ _; rw [List.take_zero]; exact HR.out⟩⟩
  case round =>
    obtain ⟨k, hk, rfl, HRk⟩ := hrel
    clear HR
    by_cases hlt : k < Φ.dec.length
    · obtain ⟨c, hc, hRr⟩ := HRk.out
      obtain ⟨u, hu⟩ : ∃ u, u = fvD[k]'(by rw [← hlen]; exact hlt) := ⟨_, rfl⟩
      obtain ⟨r, hr⟩ : ∃ r, r = Φ.dec[k] := ⟨_, rfl⟩
      obtain ⟨g0, g1, g2⟩ := recCells_get Φ.dec fvD k hlen hlt
      rw [← hr] at g0 g1
      rw [← hu] at g2
      have c0 := own_cell hRr.recs.row _ _ g0
      have c1 := own_cell hRr.recs.row _ _ g1
      have c2 := own_cell hRr.recs.row _ _ g2
      have hfld := hRr.recs.fld k r u (by rw [hr]; exact List.getElem?_eq_getElem hlt) (by rw [hu]; exact List.getElem?_eq_getElem _)
      have hdok : DecOk r := by rw [hr]; exact Hok.out.dec _ (List.getElem_mem _)
      obtain ⟨f0, fs, hfs⟩ : ∃ f0 fs, r.fields = f0 :: fs := by
        obtain ⟨_, _, h3⟩ := hdok.ok
        cases hf : r.fields with
        | nil => exact absurd hf h3
        | cons a b => exact ⟨a, b, rfl⟩
      have hf0 : fld0 r = f0 := by unfold fld0; rw [hfs]; rfl
      rw [hfs] at hfld
      obtain ⟨gf, cf, rfl, hgf1, hgf2, hgf3, hgf4⟩ := own_form hfld (by simp)
      have cf0 : wr.cell? ⟨gf, 0, none⟩ = some (.string (toB f0)) := own_cell hfld 0 _ rfl
      have htk : partsOf (Φ.dec.take (k + 1)) = partsRec r (partsOf (Φ.dec.take k)) := by rw [List.take_succ_eq_append_getElem hlt, ← hr, partsOf_snoc]
      have Htk := Lib.hid htk
      have hlo := hdok.ok.1
      have hhi := hdok.ok.2.1
      have hasc := hdok.ascii
      have hln := hdok.len
      rw [hf0] at hasc hln
      have hpw := fun W (hE : EnvT W) => points_walk (toB f0) W (by show f0.toArray.size < _; simp; omega) (by intro b hb; exact hasc b (by simpa [toB] using hb)) hE
      rw [show (toB f0).data.toList = f0 from rfl] at hpw
      have HPW := Lib.hid hpw
      have HRr := Lib.hid hRr
      have Hf0 := Lib.hid hf0
      generalize partsOf (Φ.dec.take k) = FP at *
      obtain ⟨nf, hnf⟩ : ∃ nf, nf = (f0 :: fs).length := ⟨_, rfl⟩
      rw [← hnf] at c2 hgf3
      have hnf0 : 0 < nf := by rw [hnf]; simp
      unfold maxLen at hgf4
      clear HRk hRr htk hpw hasc hln hfld hdok hfs hf0 g0 g1 g2 hu hr hnf
      go_wp2_with fail
      obtain ⟨W2, hW2⟩ : ∃ W2, W2 = wr.alloc (Obj.cells #[Value.int IntKind.i64 r.lo, Value.int IntKind.i64 r.hi, Value.slice (some ⟨gf, 0, none⟩) nf cf] 58) := ⟨_, rfl⟩
      have hbw := alloc_below wr (Obj.cells #[Value.int IntKind.i64 r.lo, Value.int IntKind.i64 r.hi, Value.slice (some ⟨gf, 0, none⟩) nf cf] 58)
      rw [← hW2] at hbw ⊢
      have hrb : Blk W2 wr.heap.size 58 #[Value.int IntKind.i64 r.lo, Value.int IntKind.i64 r.hi, Value.slice (some ⟨gf, 0, none⟩) nf cf] := by rw [hW2]; exact row_new _ _
      have HR2 := Lib.hid (HRr.out.below hbw)
      have Hrb := Lib.hid hrb
      have Hcf := Lib.hid ((hbw.cell (p := ⟨_, _, _⟩) hgf2).trans cf0)
      have Hg2 := Lib.hid (Nat.lt_of_lt_of_le hgf2 hbw.size)
      have hwr4 := HRr.out.lt
      clear hrb hW2 HRr c0 c1 c2 cf0 hbw hgf2
      generalize wr.heap.size = rb at *
      go_loopw [7] (fun i w7 => ∃ q : Nat, r.lo ≤ q ∧ q ≤ r.hi + 1 ∧ i = .int .i64 q ∧ Hid (∃ c', c' ≤ c + (q - r.lo) ∧ Run Φ w w7 CS LS (Value.slice A5 n5 c5) (Value.slice A6 n6 c6) Φ.dec (.slice (some ⟨gd, 0, none⟩) Φ.dec.length cd) fvD c' (partsTo r FP q) 0 (fun _ => none) 0 (fun _ => none)) ∧ Hid (Blk w7 rb 58 #[Value.int IntKind.i64 r.lo, Value.int IntKind.i64 r.hi, Value.slice (some ⟨gf, 0, none⟩) nf cf]) ∧ Hid (w7.cell? ⟨gf, 0, none⟩ = some (.string (toB f0)))  ∧ Hid (gf < w7.heap.size)) (fun i _ => r.hi + 1 - (intOf i).toNat)
      case atStart => exact ⟨r.lo, Nat.le_refl _, by omega, rfl, ⟨c, by omega, by rw [partsTo_zero]; exact HR2.out⟩, Hrb, Hcf, Hg2⟩
      case round =>
        obtain ⟨q, hq1, hq2, rfl, HRq, Hrq, Hcq, Hgq⟩ := hrel
        clear HR2 Hrb Hcf Hg2
        have y0 := Hrq.out.cell 0
        have y1 := Hrq.out.cell 1
        simp only [List.getElem?_toArray, List.getElem?_cons_zero, List.getElem?_cons_succ] at y0 y1
        by_cases hle : q ≤ r.hi
        · obtain ⟨c', hc', hRq⟩ := HRq.out
          have HRq2 := Lib.hid hRq
          have hlt4 := hRq.lt
          clear HRq hRq
          go_wp2_with fail
          refine load_region _ _ _ _ wr (w.heap.size + 3) rb gf nf cf w.heap.size c' w.heap.size (q : Int) (toB f0) (Sp.pts f0) (partsTo r FP q) rfl (by kernel_rfl) (by kernel_rfl) (by kernel_rfl) (by simp) rfl rfl rfl ((HRq2.out.tab.cell 7).trans HcT.out) (Hrq.out.cell 2) Hcq.out hnf0 (by omega) ?_ HRq2.out.p (by omega) (wf_i64 (by omega) (by omega)) (by unfold maxLen; omega) ?_
          · intro W hb
            exact HPW.out W (HT.out.below (HRq2.out.B.trans (hb.mono (by omega))))
          intro vc W1 w' hp' hb1 hg1
          have HR' := Lib.hid (HRq2.out.put hb1 hg1 hp')
          have Hrq' := Lib.hid ((Hrq.out.below hb1).grown hg1 (by simp; omega))
          have Hcq' := Lib.hid ((World.cell?_of_block (hg1.block gf (Nat.lt_of_lt_of_le Hgq.out hb1.size) (by simp; omega))).trans (cell_later hb1 Hcq.out))
          have Hgq' := Lib.hid (Nat.lt_of_lt_of_le Hgq.out (Nat.le_trans hb1.size hg1.size))
          clear hp' hb1 hg1 HRq2 Hrq Hcq Hgq y0 y1
          simp [frS, stepS, Exit.then]
          go_wp2_with fail
          go_roundw
          case rel => exact ⟨q + 1, by omega, by omega, by go_num, ⟨c' + 1, by omega, by rw [partsTo_next r FP q hq1, Hf0.out]; exact HR'.out⟩, Hrq', Hcq', Hgq'⟩
          case measure => simp [intOf]; omega
        · obtain rfl : q = r.hi + 1 := by omega
          obtain ⟨c', hc', hRq⟩ := HRq.out
          rw [partsTo_all, ← Htk.out] at hRq
          have HRq2 := Lib.hid hRq
          clear HRq hRq
          go_wp2_with fail
          go_roundw
          case rel => exact ⟨k + 1, by omega, by go_num, ⟨c', by omega, HRq2.out⟩⟩
          case measure => simp [intOf]; omega
    · obtain ⟨c, hc, hRr⟩ := HRk.out
      have hkl : k = Φ.dec.length := by omega
      rw [hkl, List.take_length] at hRr
      have hc9 : c ≤ 1000000000000 := by omega
      have HR := Lib.hid hRr
      clear HRk hRr
      subst hkl
      go_wp2_with fail
      refine (X6.out _).mono ?_
      rintro e w' ⟨rfl, rfl⟩
      go_wp2_with fail
      refine (L6.out _ (HE.out.below HR.out.B)).mono ?_
      intro e w7 hs
      obtain ⟨vF, fvF, rfl, hR⟩ := HR.out.again hs
      obtain ⟨gq, cq, rfl, hgq1, hgq2, hgq3, hgq4⟩ := own_form hR.recs.row Hok.out.foll.pos
      have Hlen2 := Lib.hid hR.recs.len
      have hfl := Hok.out.foll.le
      have HR2 := Lib.hid hR
      clear hR hs HR X6 L6 hlen
      go_wp2_with fail
      go_loopw [106] (fun i wr => ∃ k : Nat, k ≤ Φ.fol.length ∧ i = .int .i64 k ∧ Hid (∃ c0 c1, c0 ≤ k * 1114112 ∧ c1 ≤ k * 1114112 ∧ Run Φ w wr CS LS (Value.slice A5 n5 c5) (Value.slice A6 n6 c6) Φ.fol (.slice (some ⟨gq, 0, none⟩) Φ.fol.length cq) fvF c (partsOf Φ.dec) c0 (foldsOf false (Φ.fol.take k)) c1 (foldsOf true (Φ.fol.take k)))) (fun i _ => Φ.fol.length - (intOf i).toNat)
      case atStart => exact ⟨0, by omega, rfl, ⟨0, 0, by omega, by omega, by show Run _ _ _ _ _ _ _ _ _ _ _ _ _ (foldsOf false (Φ.fol.take 0)) _ (foldsOf true (Φ.fol.take 0)); rw [List.take_zero]; exact HR2.out⟩⟩
      case round =>
        obtain ⟨k, hk, rfl, HRk⟩ := hrel
        clear HR2
        by_cases hlt : k < Φ.fol.length
        · obtain ⟨c0, c1, hc0, hc1, hRr⟩ := HRk.out
          obtain ⟨u, hu⟩ : ∃ u, u = fvF[k]'(by rw [← Hlen2.out]; exact hlt) := ⟨_, rfl⟩
          obtain ⟨r, hr⟩ : ∃ r, r = Φ.fol[k] := ⟨_, rfl⟩
          obtain ⟨g0, g1, g2⟩ := recCells_get Φ.fol fvF k Hlen2.out hlt
          rw [← hr] at g0 g1
          rw [← hu] at g2
          have q0 := own_cell hRr.recs.row _ _ g0
          have q1 := own_cell hRr.recs.row _ _ g1
          have q2 := own_cell hRr.recs.row _ _ g2
          have hfld := hRr.recs.fld k r u (by rw [hr]; exact List.getElem?_eq_getElem hlt) (by rw [hu]; exact List.getElem?_eq_getElem _)
          have hfok : FoldOk r := by rw [hr]; exact Hok.out.fol _ (List.getElem_mem _)
          obtain ⟨A8, c8, rfl⟩ := own_slice hfld
          have ht0 : foldsOf false (Φ.fol.take (k + 1)) = foldRec r false (foldsOf false (Φ.fol.take k)) := by rw [List.take_succ_eq_append_getElem hlt, ← hr, foldsOf_snoc]
          have ht1 : foldsOf true (Φ.fol.take (k + 1)) = foldRec r true (foldsOf true (Φ.fol.take k)) := by rw [List.take_succ_eq_append_getElem hlt, ← hr, foldsOf_snoc]
          have Ht0 := Lib.hid ht0
          have Ht1 := Lib.hid ht1
          have Hfld := Lib.hid hfld
          have Hfok := Lib.hid hfok
          have HRr := Lib.hid hRr
          have hwr4 := hRr.lt
          generalize foldsOf false (Φ.fol.take k) = G0 at *
          generalize foldsOf true (Φ.fol.take k) = G1 at *
          obtain ⟨nf, hnf⟩ : ∃ nf, nf = r.fields.length := ⟨_, rfl⟩
          rw [← hnf] at q2 Hfld
          have Hnf := Lib.hid hnf
          clear HRk hRr ht0 ht1 hfld hfok g0 g1 g2 hu hr hnf
          go_wp2_with fail
          obtain rfl := Hnf.out
          have hbw := alloc_below wr (Obj.cells #[Value.int IntKind.i64 r.lo, Value.int IntKind.i64 r.hi, Value.slice A8 r.fields.length c8] 58)
          have hfw := own_below Hfld.out hbw
          have hR2 := HRr.out.below hbw
          refine (folding_walk hR2.tab (by rw [HCS.out]; rfl) (by rw [HCS.out]; rfl) hR2.s hR2.f (by omega) (by omega) (by omega) Hfok.out hfw (HT.out.below hR2.B) hgl).mono ?_
          rintro e w9 ⟨rfl, ⟨d0, hd0, hs9⟩, ⟨d1, hd1, hf9⟩, hk9⟩
          have HR9 := Lib.hid (hR2.fold hk9 hs9 hf9)
          clear hs9 hf9 hk9 hbw hfw hR2 HRr q0 q1 q2
          go_wp2_with fail
          go_roundw
          case rel => exact ⟨k + 1, by omega, by go_num, ⟨d0, d1, by omega, by omega, by rw [Ht0.out, Ht1.out]; exact HR9.out⟩⟩
          case measure => simp [intOf]; omega
        · obtain ⟨c0, c1, hc0, hc1, hRr⟩ := HRk.out
          have hkl : k = Φ.fol.length := by omega
          rw [hkl, List.take_length, HCS.out, HLS.out] at hRr
          have hta := hRr.tabs hc9 (by omega) (by omega)
          have HTA := Lib.hid hta
          have HB := Lib.hid hRr.B
          clear HRk hRr hta
          subst hkl
          go_wp2_with fail
          go_ret
          exact ⟨rfl, HTA.out, HB.out⟩
end Go.Proofs.YtmdkjljcnegmeaaDoor
