/- props: (*Tables).folding. -/
import Derived.Test.YtmdkjljcnegmeaaDoorFoldW
import Derived.StillTailTactics
namespace Go.Proofs.YtmdkjljcnegmeaaDoor
open Go.RowKit
set_option linter.unusedVariables false
set_option linter.unusedSimpArgs false

/-- Nothing that lay turns but the blocks m0 and m1. -/
structure Kept2 (m0 m1 : Nat) (w w' : World) : Prop where
  os : w'.os = w.os
  tape : w'.tape = w.tape
  output : w'.output = w.output
  size : w.heap.size ≤ w'.heap.size
  block : ∀ k, k < w.heap.size → k ≠ m0 → k ≠ m1 → w'.heap[k]? = w.heap[k]?
section
variable {m0 m1 : Nat} {w w' w'' : World}
theorem Kept2.refl (m0 m1 : Nat) (w : World) : Kept2 m0 m1 w w := ⟨rfl, rfl, rfl, Nat.le_refl _, fun _ _ _ _ => rfl⟩
theorem Kept2.trans (h : Kept2 m0 m1 w w') (h' : Kept2 m0 m1 w' w'') : Kept2 m0 m1 w w'' :=
  ⟨h'.os.trans h.os, h'.tape.trans h.tape, h'.output.trans h.output, Nat.le_trans h.size h'.size, fun k hk h0 h1 => (h'.block k (Nat.lt_of_lt_of_le hk h.size) h0 h1).trans (h.block k hk h0 h1)⟩
theorem Kept2.of_below (h : Below w.heap.size w w') : Kept2 m0 m1 w w' := ⟨h.os, h.tape, h.output, h.size, fun k hk _ _ => h.block k hk⟩
theorem Kept2.of_grown0 (h : w.grownBy w' (some m0)) : Kept2 m0 m1 w w' := ⟨h.os, h.tape, h.output, h.size, fun k hk h0 _ => h.block k hk (by simpa using h0)⟩
theorem Kept2.of_grown1 (h : w.grownBy w' (some m1)) : Kept2 m0 m1 w w' := ⟨h.os, h.tape, h.output, h.size, fun k hk _ h1 => h.block k hk (by simpa using h1)⟩
theorem Kept2.below (h : Kept2 m0 m1 w w') {B : Nat} (h0 : B ≤ m0) (h1 : B ≤ m1) (hB : B ≤ w.heap.size) : Below B w w' :=
  ⟨h.os, h.tape, h.output, h.size, fun k hk => h.block k (by omega) (by omega) (by omega)⟩
theorem Kept2.blk (h : Kept2 m0 m1 w w') {b : Nat} {t : TypeId} {cs : Array Value} (hb : Blk w b t cs) (h0 : b ≠ m0) (h1 : b ≠ m1) : Blk w' b t cs := (h.block b (heap_lt hb) h0 h1).trans hb
end
theorem EnvT.at_ {w w' : World} (h : EnvT w) {B : Nat} (hb : Below B w w') (hB : 1 < B) : EnvT w' := by
  unfold EnvT Lib.TabIs World.var? at *
  have hg : Tryd.prog.globalNamed "strings.asciiSpace" = some 1 := by kernel_rfl
  rw [hg] at h ⊢
  simp only [Option.bind_some] at h ⊢
  rw [hb.block _ hB]
  exact h
def foldPart (x : Rec) (F : Int → Option (List Nat)) (r : Nat) : Int → Option (List Nat) := fun y => if y < (r : Int) then foldTo x F y else F y
theorem foldPart_zero (x : Rec) (F : Int → Option (List Nat)) : foldPart x F x.lo = F := by
  funext y
  unfold foldPart foldTo
  split
  · cases hF : F y with
    | some l => rfl
    | none => simp only; rw [if_neg (by omega)]
  · rfl
theorem foldPart_all (x : Rec) (F : Int → Option (List Nat)) : foldPart x F (x.hi + 1) = foldTo x F := by
  funext y
  unfold foldPart
  split
  · rfl
  · unfold foldTo
    cases hF : F y with
    | some l => rfl
    | none => simp only; rw [if_neg (by omega)]
theorem foldPart_at (x : Rec) (F : Int → Option (List Nat)) (r : Nat) : foldPart x F r (r : Int) = F r := by
  unfold foldPart
  rw [if_neg (by omega)]
theorem foldPart_met (x : Rec) (F : Int → Option (List Nat)) (r : Nat) (h : (F r).isSome) : foldPart x F (r + 1) = foldPart x F r := by
  funext y
  unfold foldPart
  by_cases e : y = (r : Int)
  · subst e
    rw [if_pos (by omega), if_neg (by omega)]
    unfold foldTo
    obtain ⟨l, hl⟩ := Option.isSome_iff_exists.1 h
    rw [hl]
  · by_cases h1 : y < (r : Int)
    · rw [if_pos h1, if_pos (by omega)]
    · rw [if_neg h1, if_neg (by omega)]
theorem foldPart_new (x : Rec) (F : Int → Option (List Nat)) (r : Nat) (h : F r = none) (h1 : x.lo ≤ r) (h2 : r ≤ x.hi) : foldPart x F (r + 1) = setP (foldPart x F r) r (bump (Sp.pts (fld1 x)) (r - x.lo)) := by
  funext y
  unfold foldPart setP
  by_cases e : y = (r : Int)
  · subst e
    rw [if_pos (by omega), if_pos rfl]
    unfold foldTo
    rw [h]
    simp only
    rw [if_pos (by omega)]
    congr 2
    omega
  · rw [if_neg e]
    show _ = (if y < (r : Int) then foldTo x F y else F y)
    by_cases h3 : y < (r : Int)
    · rw [if_pos h3, if_pos (by omega)]
    · rw [if_neg h3, if_neg (by omega)]

theorem toBl (a : Sp.Str) : (toB a).toList = a := by rw [ByteArray.toList_eq]; rfl
theorem index2_0 (u v : Value) (w : World) : (Instr.index 37 (.agg #[u, v]) (.int .i64 0)).run Tryd.prog w = .ok u w := by
  simp [Instr.index, run_underlying Tryd.underlying37, asIntOf, go_sem, Tryd.sizeOf36, Tryd.isAgg36]
theorem index2_1 (u v : Value) (w : World) : (Instr.index 37 (.agg #[u, v]) (.int .i64 1)).run Tryd.prog w = .ok v w := by
  simp [Instr.index, run_underlying Tryd.underlying37, asIntOf, go_sem, Tryd.sizeOf36, Tryd.isAgg36]
structure FoldRd (W : World) (rb gf : Nat) (x : Rec) (n cf : Nat) (a0 a1 : Sp.Str) : Prop where
  blk : Blk W rb 58 #[.int .i64 x.lo, .int .i64 x.hi, .slice (some ⟨gf, 0, none⟩) n cf]
  s0 : W.cell? ⟨gf, 0, none⟩ = some (.string (toB a0))
  s1 : W.cell? ⟨gf, 1, none⟩ = some (.string (toB a1))
  lt : gf < W.heap.size
theorem FoldRd.kept {W W' : World} {rb gf : Nat} {x : Rec} {n cf : Nat} {a0 a1 : Sp.Str} {m0 m1 : Nat} (h : FoldRd W rb gf x n cf a0 a1) (hk : Kept2 m0 m1 W W') (hr0 : rb ≠ m0) (hr1 : rb ≠ m1) (hg0 : gf ≠ m0) (hg1 : gf ≠ m1) : FoldRd W' rb gf x n cf a0 a1 :=
  ⟨hk.blk h.blk hr0 hr1, (World.cell?_of_block (hk.block gf h.lt hg0 hg1)).trans h.s0, (World.cell?_of_block (hk.block gf h.lt hg0 hg1)).trans h.s1, Nat.lt_of_lt_of_le h.lt hk.size⟩
def FoldingSaid (x : Rec) (B m0 m1 c0 c1 : Nat) (F0 F1 : Int → Option (List Nat)) (w : World) (e : Ending) (w' : World) : Prop :=
  e = .returned (.tuple #[]) ∧ (∃ d0, d0 ≤ c0 + 1114112 ∧ PtsAt w' B m0 d0 (foldRec x false F0)) ∧ (∃ d1, d1 ≤ c1 + 1114112 ∧ PtsAt w' B m1 d1 (foldRec x true F1)) ∧ Kept2 m0 m1 w w'
set_option maxRecDepth 100000 in
set_option maxHeartbeats 1600000 in
theorem folding_walk {w : World} {B p m0 m1 c0 c1 : Nat} {F0 F1 : Int → Option (List Nat)} {x : Rec} {cs : Array Value} {u : Value} {b : Nat} (hT : Blk w p 39 cs) (h8 : cs[8]? = some (.map (some m0))) (h9 : cs[9]? = some (.map (some m1)))
    (hp0 : PtsAt w B m0 c0 F0) (hp1 : PtsAt w B m1 c1 F1) (hne : m0 ≠ m1) (hc0 : c0 ≤ 1000000000000) (hc1 : c1 ≤ 1000000000000) (hx : FoldOk x) (hu : w.ownsRow b 9 1 u x.fields.length (strVs x.fields)) (hE : EnvT w) (hgB : 1 < B) :
    Calls Tryd.prog 30 #[.pointer (some ⟨p, 0, none⟩), .agg #[.int .i64 x.lo, .int .i64 x.hi, u]] w (FoldingSaid x B m0 m1 c0 c1 F0 F1 w) := by
  obtain ⟨a0, a1, a2, hfs⟩ := hx.two
  have hf0 : fld0 x = a0 := by unfold fld0; rw [hfs]; rfl
  have hf1 : fld1 x = a1 := by unfold fld1; rw [hfs]; rfl
  rw [hfs] at hu
  have hnl : (a0 :: a1 :: a2).length = a2.length + 1 + 1 := rfl
  rw [hnl] at hu
  obtain ⟨gf, cf, rfl, hgf1, hgf2, hgf3, hgf4⟩ := own_form hu (by omega)
  obtain ⟨X, hX⟩ : ∃ X, X = Obj.cells #[Value.int IntKind.i64 x.lo, Value.int IntKind.i64 x.hi, Value.slice (some ⟨gf, 0, none⟩) (a2.length + 1 + 1) cf] 58 := ⟨_, rfl⟩
  have hb0 := alloc_below w X
  have hT0 := hT.below hb0
  have f8 : (w.alloc X).cell? ⟨p, 8, none⟩ = some (.map (some m0)) := (hT0.cell 8).trans h8
  have f9 : (w.alloc X).cell? ⟨p, 9, none⟩ = some (.map (some m1)) := (hT0.cell 9).trans h9
  have hg0 : gf ≠ m0 := by obtain ⟨f, hm, _⟩ := hp0; exact row_map_ne hu hm
  have hg1 : gf ≠ m1 := by obtain ⟨f, hm, _⟩ := hp1; exact row_map_ne hu hm
  have hr0 : w.heap.size ≠ m0 := by have := hp0.lt; omega
  have hr1 : w.heap.size ≠ m1 := by have := hp1.lt; omega
  have hB0 : B ≤ m0 := by obtain ⟨f, _, hm, _⟩ := hp0; exact hm
  have hB1 : B ≤ m1 := by obtain ⟨f, _, hm, _⟩ := hp1; exact hm
  have hm0 := hp0.lt
  have hRd : FoldRd (w.alloc X) w.heap.size gf x (a2.length + 1 + 1) cf a0 a1 := ⟨by rw [hX]; exact row_new _ _, (hb0.cell (p := ⟨_, _, _⟩) hgf2).trans (own_cell hu 0 _ rfl), (hb0.cell (p := ⟨_, _, _⟩) hgf2).trans (own_cell hu 1 _ rfl), Nat.lt_of_lt_of_le hgf2 hb0.size⟩
  have hE0 := hE.below hb0
  have hq0 := hp0.below hb0
  have hq1 := hp1.below hb0
  have hK0 : Kept2 m0 m1 w (w.alloc X) := Kept2.of_below hb0
  have hs0 : B ≤ (w.alloc X).heap.size := by rw [size_new]; omega
  have Hx := Lib.hid hx
  clear hT hT0 h8 h9 hp0 hp1 hu hE hb0 hx hfs
  go_enter Tryd.func30, Tryd.ntmps30
  rw [hX] at f8 f9
  go_wp2_with fail
  rw [← hX] at f8 f9 ⊢
  generalize w.alloc X = W0 at *
  clear hX f8 f9 hm0 X
  go_loopw [14] (fun i wr => ∃ k : Nat, k ≤ 2 ∧ i = .int .i64 k ∧ Hid (∃ d0, d0 ≤ c0 + 1114112 ∧ PtsAt wr B m0 d0 (if 1 ≤ k then foldRec x false F0 else F0)) ∧ Hid (∃ d1, d1 ≤ c1 + 1114112 ∧ (k < 2 → d1 ≤ c1) ∧ (PtsAt wr B m1 d1 (if 2 ≤ k then foldRec x true F1 else F1))) ∧ Hid (k = 0 → PtsAt wr B m0 c0 F0) ∧ Hid (Kept2 m0 m1 W0 wr)) (fun i _ => 2 - (intOf i).toNat)
  case atStart => exact ⟨0, by omega, rfl, ⟨c0, by omega, hq0⟩, ⟨c1, by omega, fun _ => Nat.le_refl _, hq1⟩, fun _ => hq0, Kept2.refl _ _ _⟩
  case round =>
    obtain ⟨k, hk, rfl, HP0, HP1, HPz, HK⟩ := hrel
    have HRd := Lib.hid (hRd.kept HK.out hr0 hr1 hg0 hg1)
    have HE := Lib.hid (hE0.at_ (HK.out.below hB0 hB1 hs0) hgB)
    have HRd0 := Lib.hid hRd
    have HE0 := Lib.hid hE0
    clear hRd hE0 hq0 hq1
    by_cases hlt : k < 2
    · have z0 : wr.cell? ⟨w.heap.size, 0, none⟩ = some (.int .i64 x.lo) := HRd.out.blk.cell 0
      have z1 : wr.cell? ⟨w.heap.size, 1, none⟩ = some (.int .i64 x.hi) := HRd.out.blk.cell 1
      have z2 : wr.cell? ⟨w.heap.size, 2, none⟩ = some (.slice (some ⟨gf, 0, none⟩) (a2.length + 1 + 1) cf) := HRd.out.blk.cell 2
      have z3 : wr.cell? ⟨gf, 0, none⟩ = some (.string (toB a0)) := HRd.out.s0
      rcases Nat.eq_zero_or_pos k with hk0 | hk0
      · subst hk0
        have hi0 := index2_0 (.map (some m0)) (.map (some m1)) wr
        have HQ : Hid (PtsAt wr B m0 c0 F0) := HPz.out rfl
        obtain ⟨d1, hd1, hd1b, hq1⟩ := HP1.out
        rw [if_neg (by omega)] at hq1
        have HO := Lib.hid hq1
        have hd1c := hd1b (by omega)
        clear HP0 HP1 HPz hq1 hd1b
        by_cases hC : a0 = [67]
        · have e1 : (toB a0).toList = [67] := by rw [toBl, hC]
          have hsk : skips x false = false := by unfold skips; rw [hf0, hC]; rfl
          clear hC
          have Hfr := Lib.hid (show foldRec x false F0 = foldTo x F0 by unfold foldRec; rw [hsk]; rfl)
          clear hsk
          go_wp2_with fail
          go_loopw [6] (fun i wi => ∃ r : Nat, x.lo ≤ r ∧ r ≤ x.hi + 1 ∧ i = .int .i64 r ∧ Hid (∃ d, d ≤ c0 + (r - x.lo) ∧ PtsAt wi B m0 d (foldPart x F0 r)) ∧ Hid (PtsAt wi B m1 d1 F1) ∧ Hid (Kept2 m0 m1 W0 wi)) (fun i _ => x.hi + 1 - (intOf i).toNat)
          case atStart => exact ⟨x.lo, Nat.le_refl _, by have := Hx.out.le; omega, rfl, ⟨c0, by omega, by rw [foldPart_zero]; exact HQ.out⟩, HO, HK⟩
          case round =>
            obtain ⟨r, hr1', hr2', rfl, HQ2, HO2, HK2⟩ := hrel
            clear HQ HO HK HRd HE z0 z1 z2 z3
            have HRd2 := Lib.hid (HRd0.out.kept HK2.out hr0 hr1 hg0 hg1)
            obtain ⟨d', hd', hq'⟩ := HQ2.out
            clear HQ2
            have y0 := HRd2.out.blk.cell 0
            have y1 := HRd2.out.blk.cell 1
            have y2 := HRd2.out.blk.cell 2
            simp only [List.getElem?_toArray, List.getElem?_cons_zero, List.getElem?_cons_succ] at y0 y1 y2
            have y3 := HRd2.out.s1
            have hhi := Hx.out.hi
            by_cases hle : r ≤ x.hi
            · obtain ⟨v, hlook, hv⟩ := hq'.look (r : Int) (wf_i64 (by omega) (by omega)) true
              rw [foldPart_at] at hlook hv
              have HQ3 := Lib.hid hq'
              cases hF : F0 (r : Int) with
              | some l =>
                rw [hF] at hlook
                simp only [if_true, Option.isSome_some] at hlook
                have hpm := foldPart_met x F0 r (by rw [hF]; rfl)
                have Hpm := Lib.hid hpm
                clear hv hpm hq' hF y2 y3
                go_wp2_with fail
                go_roundw
                case rel => exact ⟨r + 1, by omega, by omega, by go_num, ⟨d', by omega, by rw [Hpm.out]; exact HQ3.out⟩, HO2, HK2⟩
                case measure => simp [intOf]; omega
              | none =>
                rw [hF] at hlook
                simp only [if_true, Option.isSome_none] at hlook
                have hpn := foldPart_new x F0 r hF hr1' hle
                have hps := Hx.out.pts
                have hasc := Hx.out.ascii
                have hlen := Hx.out.len
                rw [hf1] at hpn hps hasc hlen
                have hpl := pts_le a1
                obtain ⟨n0, l0, hnl0⟩ := List.exists_cons_of_ne_nil hps
                have hn0 := hpl n0 (by rw [hnl0]; exact List.mem_cons_self)
                have hpw := fun w' hE' => points_walk (toB a1) w' (by show a1.toArray.size < _; simp; omega) (by intro b hb; exact hasc b (by simpa [toB] using hb)) hE'
                have e3 : Sp.pts (toB a1).data.toList = n0 :: l0 := by rw [← hnl0]; rfl
                rw [e3] at hpw
                rw [hnl0] at hpn
                have Hpn := Lib.hid hpn
                have HPW := Lib.hid hpw
                have HE2 := Lib.hid (HE0.out.at_ (HK2.out.below hB0 hB1 hs0) hgB)
                clear hv hpn hps hasc hlen hpl hpw hnl0 e3 hq' hF
                go_wp2_with fail
                refine (HPW.out _ HE2.out).mono ?_
                rintro e w3 ⟨v3, rfl, hv3, hb3⟩
                rw [show (n0 :: l0).length = l0.length + 1 from rfl] at hv3
                obtain ⟨g3, c3, rfl, hg31, hg32, hg33, hg34⟩ := own_form hv3 (by omega)
                have q0 : w3.drew.cell? ⟨g3, 0, none⟩ = some (.int .i64 n0) := own_cell hv3 0 _ rfl
                have q1 : w3.drew.frozen? ⟨g3, 0, none⟩ = false := own_free hv3 0
                have q2 : w3.drew.cell? ⟨w.heap.size, 0, none⟩ = some (.int .i64 x.lo) := ((HRd2.out.kept (Kept2.of_below hb3) hr0 hr1 hg0 hg1).blk.cell 0)
                have hb5 := (hb3.trans ((below_drewN w3 1).mono hb3.size)).setCell (p := ⟨g3, 0, none⟩) hg31 (.int .i64 ((n0 : Int) + ((r : Int) - x.lo)))
                have hv5 := own_set (j := 0) (u := .int .i64 ((n0 : Int) + ((r : Int) - x.lo))) (own_below hv3 (below_drewN w3 1)) (by omega)
                have e5 : (ints (n0 :: l0)).set 0 (.int .i64 ((n0 : Int) + ((r : Int) - x.lo))) = ints (bump (n0 :: l0) (r - x.lo)) := by
                  unfold ints bump
                  simp only [List.map_cons, List.set_cons_zero]
                  congr 2
                  omega
                rw [e5] at hv5
                have hBw : B ≤ wr.heap.size := by have := HQ3.out.lt; omega
                have hv6 := own_base hv5 hBw
                obtain ⟨w6, hrun, hq6, hg6⟩ := (HQ3.out.below hb5).put (l := bump (n0 :: l0) (r - x.lo)) hv6 (r : Int) (wf_i64 (by omega) (by omega)) (by unfold maxLen; omega)
                have HO6 := Lib.hid ((HO2.out.below hb5).other (HQ3.out.below hb5) (Ne.symm hne) hg6)
                have HK6 := Lib.hid ((HK2.out.trans (Kept2.of_below hb5)).trans (Kept2.of_grown0 hg6))
                have HQ6 := Lib.hid hq6
                have b1 : IntKind.i64.wrap ((r : Int) - x.lo) = (r : Int) - x.lo := by rw [IntKind.wrap_i64]; omega
                have b2 : IntKind.i64.wrap ((n0 : Int) + ((r : Int) - x.lo)) = (n0 : Int) + ((r : Int) - x.lo) := by rw [IntKind.wrap_i64]; omega
                have b3 : (0 : Int) < (l0.length : Int) + 1 := by omega
                rw [show w3.drewN 1 = w3.drew from rfl] at hrun
                clear hb5 hv5 e5 hv6 hq6 hg6 hv3 hb3 HPW HE2 HQ3 HO2 HK2 hlook
                go_wp2_with fail
                go_still_tail 9, (by kernel_rfl)
                change wpList _ _ _ _ _ w3.drew
                generalize w3.drew = W4 at *
                go_wp2_with fail
                refine ⟨?_, ?_⟩
                · (repeat apply Exists.intro)
                  refine ⟨?_, rfl⟩
                  exact ⟨r + 1, by omega, by omega, by go_num, ⟨d' + 1, by omega, by rw [Hpn.out]; exact HQ6.out⟩, HO6, HK6⟩
                · simp [intOf]; omega
            · obtain rfl : r = x.hi + 1 := by omega
              rw [foldPart_all] at hq'
              have HQ3 := Lib.hid hq'
              clear hq'
              go_wp2_with fail
              go_roundw
              case rel =>
                have hq' := HQ3.out
                exact ⟨1, by omega, rfl, ⟨d', by omega, by show PtsAt _ _ _ _ (foldRec x false F0); rw [Hfr.out]; exact hq'⟩, ⟨d1, hd1, fun _ => hd1c, HO2.out⟩, (fun h => absurd h (by omega)), HK2⟩
              case measure => simp [intOf]
        · have n1 : ¬ (toB a0).toList = [67] := by rw [toBl]; exact hC
          have e1 : ((toB a0).toList == [67]) = false := beq_eq_false_iff_ne.2 n1
          by_cases hG : a0 = [70]
          · have e2 : (toB a0).toList = [70] := by rw [toBl, hG]
            have hsk : skips x false = true := by unfold skips; rw [hf0, hG]; rfl
            clear hC hG n1
            have Hfr := Lib.hid (show foldRec x false F0 = F0 by unfold foldRec; rw [hsk]; rfl)
            clear hsk
            go_wp2_with fail
            go_roundw
            case rel => exact ⟨1, by omega, rfl, ⟨c0, by omega, by show PtsAt _ _ _ _ (foldRec x false F0); rw [Hfr.out]; exact HQ.out⟩, ⟨d1, hd1, fun _ => hd1c, HO.out⟩, (fun h => absurd h (by omega)), HK⟩
            case measure => simp [intOf]
          · have n2 : ¬ (toB a0).toList = [70] := by rw [toBl]; exact hG
            have e2 : ((toB a0).toList == [70]) = false := beq_eq_false_iff_ne.2 n2
            have hsk : skips x false = false := by unfold skips; rw [hf0, decide_eq_true hC, beq_eq_false_iff_ne.2 hG]; rfl
            clear hC hG
            have Hfr := Lib.hid (show foldRec x false F0 = foldTo x F0 by unfold foldRec; rw [hsk]; rfl)
            clear hsk
            go_wp2_with fail
            go_loopw [6] (fun i wi => ∃ r : Nat, x.lo ≤ r ∧ r ≤ x.hi + 1 ∧ i = .int .i64 r ∧ Hid (∃ d, d ≤ c0 + (r - x.lo) ∧ PtsAt wi B m0 d (foldPart x F0 r)) ∧ Hid (PtsAt wi B m1 d1 F1) ∧ Hid (Kept2 m0 m1 W0 wi)) (fun i _ => x.hi + 1 - (intOf i).toNat)
            case atStart => exact ⟨x.lo, Nat.le_refl _, by have := Hx.out.le; omega, rfl, ⟨c0, by omega, by rw [foldPart_zero]; exact HQ.out⟩, HO, HK⟩
            case round =>
              obtain ⟨r, hr1', hr2', rfl, HQ2, HO2, HK2⟩ := hrel
              clear HQ HO HK HRd HE z0 z1 z2 z3
              have HRd2 := Lib.hid (HRd0.out.kept HK2.out hr0 hr1 hg0 hg1)
              obtain ⟨d', hd', hq'⟩ := HQ2.out
              clear HQ2
              have y0 := HRd2.out.blk.cell 0
              have y1 := HRd2.out.blk.cell 1
              have y2 := HRd2.out.blk.cell 2
              simp only [List.getElem?_toArray, List.getElem?_cons_zero, List.getElem?_cons_succ] at y0 y1 y2
              have y3 := HRd2.out.s1
              have hhi := Hx.out.hi
              by_cases hle : r ≤ x.hi
              · obtain ⟨v, hlook, hv⟩ := hq'.look (r : Int) (wf_i64 (by omega) (by omega)) true
                rw [foldPart_at] at hlook hv
                have HQ3 := Lib.hid hq'
                cases hF : F0 (r : Int) with
                | some l =>
                  rw [hF] at hlook
                  simp only [if_true, Option.isSome_some] at hlook
                  have hpm := foldPart_met x F0 r (by rw [hF]; rfl)
                  have Hpm := Lib.hid hpm
                  clear hv hpm hq' hF y2 y3
                  go_wp2_with fail
                  go_roundw
                  case rel => exact ⟨r + 1, by omega, by omega, by go_num, ⟨d', by omega, by rw [Hpm.out]; exact HQ3.out⟩, HO2, HK2⟩
                  case measure => simp [intOf]; omega
                | none =>
                  rw [hF] at hlook
                  simp only [if_true, Option.isSome_none] at hlook
                  have hpn := foldPart_new x F0 r hF hr1' hle
                  have hps := Hx.out.pts
                  have hasc := Hx.out.ascii
                  have hlen := Hx.out.len
                  rw [hf1] at hpn hps hasc hlen
                  have hpl := pts_le a1
                  obtain ⟨n0, l0, hnl0⟩ := List.exists_cons_of_ne_nil hps
                  have hn0 := hpl n0 (by rw [hnl0]; exact List.mem_cons_self)
                  have hpw := fun w' hE' => points_walk (toB a1) w' (by show a1.toArray.size < _; simp; omega) (by intro b hb; exact hasc b (by simpa [toB] using hb)) hE'
                  have e3 : Sp.pts (toB a1).data.toList = n0 :: l0 := by rw [← hnl0]; rfl
                  rw [e3] at hpw
                  rw [hnl0] at hpn
                  have Hpn := Lib.hid hpn
                  have HPW := Lib.hid hpw
                  have HE2 := Lib.hid (HE0.out.at_ (HK2.out.below hB0 hB1 hs0) hgB)
                  clear hv hpn hps hasc hlen hpl hpw hnl0 e3 hq' hF
                  go_wp2_with fail
                  refine (HPW.out _ HE2.out).mono ?_
                  rintro e w3 ⟨v3, rfl, hv3, hb3⟩
                  rw [show (n0 :: l0).length = l0.length + 1 from rfl] at hv3
                  obtain ⟨g3, c3, rfl, hg31, hg32, hg33, hg34⟩ := own_form hv3 (by omega)
                  have q0 : w3.drew.cell? ⟨g3, 0, none⟩ = some (.int .i64 n0) := own_cell hv3 0 _ rfl
                  have q1 : w3.drew.frozen? ⟨g3, 0, none⟩ = false := own_free hv3 0
                  have q2 : w3.drew.cell? ⟨w.heap.size, 0, none⟩ = some (.int .i64 x.lo) := ((HRd2.out.kept (Kept2.of_below hb3) hr0 hr1 hg0 hg1).blk.cell 0)
                  have hb5 := (hb3.trans ((below_drewN w3 1).mono hb3.size)).setCell (p := ⟨g3, 0, none⟩) hg31 (.int .i64 ((n0 : Int) + ((r : Int) - x.lo)))
                  have hv5 := own_set (j := 0) (u := .int .i64 ((n0 : Int) + ((r : Int) - x.lo))) (own_below hv3 (below_drewN w3 1)) (by omega)
                  have e5 : (ints (n0 :: l0)).set 0 (.int .i64 ((n0 : Int) + ((r : Int) - x.lo))) = ints (bump (n0 :: l0) (r - x.lo)) := by
                    unfold ints bump
                    simp only [List.map_cons, List.set_cons_zero]
                    congr 2
                    omega
                  rw [e5] at hv5
                  have hBw : B ≤ wr.heap.size := by have := HQ3.out.lt; omega
                  have hv6 := own_base hv5 hBw
                  obtain ⟨w6, hrun, hq6, hg6⟩ := (HQ3.out.below hb5).put (l := bump (n0 :: l0) (r - x.lo)) hv6 (r : Int) (wf_i64 (by omega) (by omega)) (by unfold maxLen; omega)
                  have HO6 := Lib.hid ((HO2.out.below hb5).other (HQ3.out.below hb5) (Ne.symm hne) hg6)
                  have HK6 := Lib.hid ((HK2.out.trans (Kept2.of_below hb5)).trans (Kept2.of_grown0 hg6))
                  have HQ6 := Lib.hid hq6
                  have b1 : IntKind.i64.wrap ((r : Int) - x.lo) = (r : Int) - x.lo := by rw [IntKind.wrap_i64]; omega
                  have b2 : IntKind.i64.wrap ((n0 : Int) + ((r : Int) - x.lo)) = (n0 : Int) + ((r : Int) - x.lo) := by rw [IntKind.wrap_i64]; omega
                  have b3 : (0 : Int) < (l0.length : Int) + 1 := by omega
                  rw [show w3.drewN 1 = w3.drew from rfl] at hrun
                  clear hb5 hv5 e5 hv6 hq6 hg6 hv3 hb3 HPW HE2 HQ3 HO2 HK2 hlook
                  go_wp2_with fail
                  go_still_tail 9, (by kernel_rfl)
                  change wpList _ _ _ _ _ w3.drew
                  generalize w3.drew = W4 at *
                  go_wp2_with fail
                  refine ⟨?_, ?_⟩
                  · (repeat apply Exists.intro)
                    refine ⟨?_, rfl⟩
                    exact ⟨r + 1, by omega, by omega, by go_num, ⟨d' + 1, by omega, by rw [Hpn.out]; exact HQ6.out⟩, HO6, HK6⟩
                  · simp [intOf]; omega
              · obtain rfl : r = x.hi + 1 := by omega
                rw [foldPart_all] at hq'
                have HQ3 := Lib.hid hq'
                clear hq'
                go_wp2_with fail
                go_roundw
                case rel =>
                  have hq' := HQ3.out
                  exact ⟨1, by omega, rfl, ⟨d', by omega, by show PtsAt _ _ _ _ (foldRec x false F0); rw [Hfr.out]; exact hq'⟩, ⟨d1, hd1, fun _ => hd1c, HO2.out⟩, (fun h => absurd h (by omega)), HK2⟩
                case measure => simp [intOf]
      · obtain rfl : k = 1 := by omega
        have hi1 := index2_1 (.map (some m0)) (.map (some m1)) wr
        obtain ⟨d1, hd1, hd1b, hq1⟩ := HP1.out
        rw [if_neg (by omega)] at hq1
        have HQ := Lib.hid hq1
        have hd1c := hd1b (by omega)
        obtain ⟨d0, hd0, hq0⟩ := HP0.out
        rw [if_pos (by omega)] at hq0
        have HO := Lib.hid hq0
        clear HP0 HP1 HPz hq1 hd1b hq0
        by_cases hC : a0 = [67]
        · have e1 : (toB a0).toList = [67] := by rw [toBl, hC]
          have hsk : skips x true = false := by unfold skips; rw [hf0, hC]; rfl
          clear hC
          have Hfr := Lib.hid (show foldRec x true F1 = foldTo x F1 by unfold foldRec; rw [hsk]; rfl)
          clear hsk
          go_wp2_with fail
          go_loopw [6] (fun i wi => ∃ r : Nat, x.lo ≤ r ∧ r ≤ x.hi + 1 ∧ i = .int .i64 r ∧ Hid (∃ d, d ≤ d1 + (r - x.lo) ∧ PtsAt wi B m1 d (foldPart x F1 r)) ∧ Hid (PtsAt wi B m0 d0 (foldRec x false F0)) ∧ Hid (Kept2 m0 m1 W0 wi)) (fun i _ => x.hi + 1 - (intOf i).toNat)
          case atStart => exact ⟨x.lo, Nat.le_refl _, by have := Hx.out.le; omega, rfl, ⟨d1, by omega, by rw [foldPart_zero]; exact HQ.out⟩, HO, HK⟩
          case round =>
            obtain ⟨r, hr1', hr2', rfl, HQ2, HO2, HK2⟩ := hrel
            clear HQ HO HK HRd HE z0 z1 z2 z3
            have HRd2 := Lib.hid (HRd0.out.kept HK2.out hr0 hr1 hg0 hg1)
            obtain ⟨d', hd', hq'⟩ := HQ2.out
            clear HQ2
            have y0 := HRd2.out.blk.cell 0
            have y1 := HRd2.out.blk.cell 1
            have y2 := HRd2.out.blk.cell 2
            simp only [List.getElem?_toArray, List.getElem?_cons_zero, List.getElem?_cons_succ] at y0 y1 y2
            have y3 := HRd2.out.s1
            have hhi := Hx.out.hi
            by_cases hle : r ≤ x.hi
            · obtain ⟨v, hlook, hv⟩ := hq'.look (r : Int) (wf_i64 (by omega) (by omega)) true
              rw [foldPart_at] at hlook hv
              have HQ3 := Lib.hid hq'
              cases hF : F1 (r : Int) with
              | some l =>
                rw [hF] at hlook
                simp only [if_true, Option.isSome_some] at hlook
                have hpm := foldPart_met x F1 r (by rw [hF]; rfl)
                have Hpm := Lib.hid hpm
                clear hv hpm hq' hF y2 y3
                go_wp2_with fail
                go_roundw
                case rel => exact ⟨r + 1, by omega, by omega, by go_num, ⟨d', by omega, by rw [Hpm.out]; exact HQ3.out⟩, HO2, HK2⟩
                case measure => simp [intOf]; omega
              | none =>
                rw [hF] at hlook
                simp only [if_true, Option.isSome_none] at hlook
                have hpn := foldPart_new x F1 r hF hr1' hle
                have hps := Hx.out.pts
                have hasc := Hx.out.ascii
                have hlen := Hx.out.len
                rw [hf1] at hpn hps hasc hlen
                have hpl := pts_le a1
                obtain ⟨n0, l0, hnl0⟩ := List.exists_cons_of_ne_nil hps
                have hn0 := hpl n0 (by rw [hnl0]; exact List.mem_cons_self)
                have hpw := fun w' hE' => points_walk (toB a1) w' (by show a1.toArray.size < _; simp; omega) (by intro b hb; exact hasc b (by simpa [toB] using hb)) hE'
                have e3 : Sp.pts (toB a1).data.toList = n0 :: l0 := by rw [← hnl0]; rfl
                rw [e3] at hpw
                rw [hnl0] at hpn
                have Hpn := Lib.hid hpn
                have HPW := Lib.hid hpw
                have HE2 := Lib.hid (HE0.out.at_ (HK2.out.below hB0 hB1 hs0) hgB)
                clear hv hpn hps hasc hlen hpl hpw hnl0 e3 hq' hF
                go_wp2_with fail
                refine (HPW.out _ HE2.out).mono ?_
                rintro e w3 ⟨v3, rfl, hv3, hb3⟩
                rw [show (n0 :: l0).length = l0.length + 1 from rfl] at hv3
                obtain ⟨g3, c3, rfl, hg31, hg32, hg33, hg34⟩ := own_form hv3 (by omega)
                have q0 : w3.drew.cell? ⟨g3, 0, none⟩ = some (.int .i64 n0) := own_cell hv3 0 _ rfl
                have q1 : w3.drew.frozen? ⟨g3, 0, none⟩ = false := own_free hv3 0
                have q2 : w3.drew.cell? ⟨w.heap.size, 0, none⟩ = some (.int .i64 x.lo) := ((HRd2.out.kept (Kept2.of_below hb3) hr0 hr1 hg0 hg1).blk.cell 0)
                have hb5 := (hb3.trans ((below_drewN w3 1).mono hb3.size)).setCell (p := ⟨g3, 0, none⟩) hg31 (.int .i64 ((n0 : Int) + ((r : Int) - x.lo)))
                have hv5 := own_set (j := 0) (u := .int .i64 ((n0 : Int) + ((r : Int) - x.lo))) (own_below hv3 (below_drewN w3 1)) (by omega)
                have e5 : (ints (n0 :: l0)).set 0 (.int .i64 ((n0 : Int) + ((r : Int) - x.lo))) = ints (bump (n0 :: l0) (r - x.lo)) := by
                  unfold ints bump
                  simp only [List.map_cons, List.set_cons_zero]
                  congr 2
                  omega
                rw [e5] at hv5
                have hBw : B ≤ wr.heap.size := by have := HQ3.out.lt; omega
                have hv6 := own_base hv5 hBw
                obtain ⟨w6, hrun, hq6, hg6⟩ := (HQ3.out.below hb5).put (l := bump (n0 :: l0) (r - x.lo)) hv6 (r : Int) (wf_i64 (by omega) (by omega)) (by unfold maxLen; omega)
                have HO6 := Lib.hid ((HO2.out.below hb5).other (HQ3.out.below hb5) hne hg6)
                have HK6 := Lib.hid ((HK2.out.trans (Kept2.of_below hb5)).trans (Kept2.of_grown1 hg6))
                have HQ6 := Lib.hid hq6
                have b1 : IntKind.i64.wrap ((r : Int) - x.lo) = (r : Int) - x.lo := by rw [IntKind.wrap_i64]; omega
                have b2 : IntKind.i64.wrap ((n0 : Int) + ((r : Int) - x.lo)) = (n0 : Int) + ((r : Int) - x.lo) := by rw [IntKind.wrap_i64]; omega
                have b3 : (0 : Int) < (l0.length : Int) + 1 := by omega
                rw [show w3.drewN 1 = w3.drew from rfl] at hrun
                clear hb5 hv5 e5 hv6 hq6 hg6 hv3 hb3 HPW HE2 HQ3 HO2 HK2 hlook
                go_wp2_with fail
                go_still_tail 9, (by kernel_rfl)
                change wpList _ _ _ _ _ w3.drew
                generalize w3.drew = W4 at *
                go_wp2_with fail
                refine ⟨?_, ?_⟩
                · (repeat apply Exists.intro)
                  refine ⟨?_, rfl⟩
                  exact ⟨r + 1, by omega, by omega, by go_num, ⟨d' + 1, by omega, by rw [Hpn.out]; exact HQ6.out⟩, HO6, HK6⟩
                · simp [intOf]; omega
            · obtain rfl : r = x.hi + 1 := by omega
              rw [foldPart_all] at hq'
              have HQ3 := Lib.hid hq'
              clear hq'
              go_wp2_with fail
              go_roundw
              case rel =>
                have hq' := HQ3.out
                exact ⟨2, by omega, rfl, ⟨d0, hd0, HO2.out⟩, ⟨d', by omega, (fun h => absurd h (by omega)), by show PtsAt _ _ _ _ (foldRec x true F1); rw [Hfr.out]; exact hq'⟩, (fun h => absurd h (by omega)), HK2⟩
              case measure => simp [intOf]
        · have n1 : ¬ (toB a0).toList = [67] := by rw [toBl]; exact hC
          have e1 : ((toB a0).toList == [67]) = false := beq_eq_false_iff_ne.2 n1
          by_cases hG : a0 = [70]
          · have e2 : (toB a0).toList = [70] := by rw [toBl, hG]
            have hsk : skips x true = false := by unfold skips; rw [hf0, hG]; rfl
            clear hC hG n1
            have Hfr := Lib.hid (show foldRec x true F1 = foldTo x F1 by unfold foldRec; rw [hsk]; rfl)
            clear hsk
            go_wp2_with fail
            go_loopw [6] (fun i wi => ∃ r : Nat, x.lo ≤ r ∧ r ≤ x.hi + 1 ∧ i = .int .i64 r ∧ Hid (∃ d, d ≤ d1 + (r - x.lo) ∧ PtsAt wi B m1 d (foldPart x F1 r)) ∧ Hid (PtsAt wi B m0 d0 (foldRec x false F0)) ∧ Hid (Kept2 m0 m1 W0 wi)) (fun i _ => x.hi + 1 - (intOf i).toNat)
            case atStart => exact ⟨x.lo, Nat.le_refl _, by have := Hx.out.le; omega, rfl, ⟨d1, by omega, by rw [foldPart_zero]; exact HQ.out⟩, HO, HK⟩
            case round =>
              obtain ⟨r, hr1', hr2', rfl, HQ2, HO2, HK2⟩ := hrel
              clear HQ HO HK HRd HE z0 z1 z2 z3
              have HRd2 := Lib.hid (HRd0.out.kept HK2.out hr0 hr1 hg0 hg1)
              obtain ⟨d', hd', hq'⟩ := HQ2.out
              clear HQ2
              have y0 := HRd2.out.blk.cell 0
              have y1 := HRd2.out.blk.cell 1
              have y2 := HRd2.out.blk.cell 2
              simp only [List.getElem?_toArray, List.getElem?_cons_zero, List.getElem?_cons_succ] at y0 y1 y2
              have y3 := HRd2.out.s1
              have hhi := Hx.out.hi
              by_cases hle : r ≤ x.hi
              · obtain ⟨v, hlook, hv⟩ := hq'.look (r : Int) (wf_i64 (by omega) (by omega)) true
                rw [foldPart_at] at hlook hv
                have HQ3 := Lib.hid hq'
                cases hF : F1 (r : Int) with
                | some l =>
                  rw [hF] at hlook
                  simp only [if_true, Option.isSome_some] at hlook
                  have hpm := foldPart_met x F1 r (by rw [hF]; rfl)
                  have Hpm := Lib.hid hpm
                  clear hv hpm hq' hF y2 y3
                  go_wp2_with fail
                  go_roundw
                  case rel => exact ⟨r + 1, by omega, by omega, by go_num, ⟨d', by omega, by rw [Hpm.out]; exact HQ3.out⟩, HO2, HK2⟩
                  case measure => simp [intOf]; omega
                | none =>
                  rw [hF] at hlook
                  simp only [if_true, Option.isSome_none] at hlook
                  have hpn := foldPart_new x F1 r hF hr1' hle
                  have hps := Hx.out.pts
                  have hasc := Hx.out.ascii
                  have hlen := Hx.out.len
                  rw [hf1] at hpn hps hasc hlen
                  have hpl := pts_le a1
                  obtain ⟨n0, l0, hnl0⟩ := List.exists_cons_of_ne_nil hps
                  have hn0 := hpl n0 (by rw [hnl0]; exact List.mem_cons_self)
                  have hpw := fun w' hE' => points_walk (toB a1) w' (by show a1.toArray.size < _; simp; omega) (by intro b hb; exact hasc b (by simpa [toB] using hb)) hE'
                  have e3 : Sp.pts (toB a1).data.toList = n0 :: l0 := by rw [← hnl0]; rfl
                  rw [e3] at hpw
                  rw [hnl0] at hpn
                  have Hpn := Lib.hid hpn
                  have HPW := Lib.hid hpw
                  have HE2 := Lib.hid (HE0.out.at_ (HK2.out.below hB0 hB1 hs0) hgB)
                  clear hv hpn hps hasc hlen hpl hpw hnl0 e3 hq' hF
                  go_wp2_with fail
                  refine (HPW.out _ HE2.out).mono ?_
                  rintro e w3 ⟨v3, rfl, hv3, hb3⟩
                  rw [show (n0 :: l0).length = l0.length + 1 from rfl] at hv3
                  obtain ⟨g3, c3, rfl, hg31, hg32, hg33, hg34⟩ := own_form hv3 (by omega)
                  have q0 : w3.drew.cell? ⟨g3, 0, none⟩ = some (.int .i64 n0) := own_cell hv3 0 _ rfl
                  have q1 : w3.drew.frozen? ⟨g3, 0, none⟩ = false := own_free hv3 0
                  have q2 : w3.drew.cell? ⟨w.heap.size, 0, none⟩ = some (.int .i64 x.lo) := ((HRd2.out.kept (Kept2.of_below hb3) hr0 hr1 hg0 hg1).blk.cell 0)
                  have hb5 := (hb3.trans ((below_drewN w3 1).mono hb3.size)).setCell (p := ⟨g3, 0, none⟩) hg31 (.int .i64 ((n0 : Int) + ((r : Int) - x.lo)))
                  have hv5 := own_set (j := 0) (u := .int .i64 ((n0 : Int) + ((r : Int) - x.lo))) (own_below hv3 (below_drewN w3 1)) (by omega)
                  have e5 : (ints (n0 :: l0)).set 0 (.int .i64 ((n0 : Int) + ((r : Int) - x.lo))) = ints (bump (n0 :: l0) (r - x.lo)) := by
                    unfold ints bump
                    simp only [List.map_cons, List.set_cons_zero]
                    congr 2
                    omega
                  rw [e5] at hv5
                  have hBw : B ≤ wr.heap.size := by have := HQ3.out.lt; omega
                  have hv6 := own_base hv5 hBw
                  obtain ⟨w6, hrun, hq6, hg6⟩ := (HQ3.out.below hb5).put (l := bump (n0 :: l0) (r - x.lo)) hv6 (r : Int) (wf_i64 (by omega) (by omega)) (by unfold maxLen; omega)
                  have HO6 := Lib.hid ((HO2.out.below hb5).other (HQ3.out.below hb5) hne hg6)
                  have HK6 := Lib.hid ((HK2.out.trans (Kept2.of_below hb5)).trans (Kept2.of_grown1 hg6))
                  have HQ6 := Lib.hid hq6
                  have b1 : IntKind.i64.wrap ((r : Int) - x.lo) = (r : Int) - x.lo := by rw [IntKind.wrap_i64]; omega
                  have b2 : IntKind.i64.wrap ((n0 : Int) + ((r : Int) - x.lo)) = (n0 : Int) + ((r : Int) - x.lo) := by rw [IntKind.wrap_i64]; omega
                  have b3 : (0 : Int) < (l0.length : Int) + 1 := by omega
                  rw [show w3.drewN 1 = w3.drew from rfl] at hrun
                  clear hb5 hv5 e5 hv6 hq6 hg6 hv3 hb3 HPW HE2 HQ3 HO2 HK2 hlook
                  go_wp2_with fail
                  go_still_tail 9, (by kernel_rfl)
                  change wpList _ _ _ _ _ w3.drew
                  generalize w3.drew = W4 at *
                  go_wp2_with fail
                  refine ⟨?_, ?_⟩
                  · (repeat apply Exists.intro)
                    refine ⟨?_, rfl⟩
                    exact ⟨r + 1, by omega, by omega, by go_num, ⟨d' + 1, by omega, by rw [Hpn.out]; exact HQ6.out⟩, HO6, HK6⟩
                  · simp [intOf]; omega
              · obtain rfl : r = x.hi + 1 := by omega
                rw [foldPart_all] at hq'
                have HQ3 := Lib.hid hq'
                clear hq'
                go_wp2_with fail
                go_roundw
                case rel =>
                  have hq' := HQ3.out
                  exact ⟨2, by omega, rfl, ⟨d0, hd0, HO2.out⟩, ⟨d', by omega, (fun h => absurd h (by omega)), by show PtsAt _ _ _ _ (foldRec x true F1); rw [Hfr.out]; exact hq'⟩, (fun h => absurd h (by omega)), HK2⟩
                case measure => simp [intOf]
          · have n2 : ¬ (toB a0).toList = [70] := by rw [toBl]; exact hG
            have e2 : ((toB a0).toList == [70]) = false := beq_eq_false_iff_ne.2 n2
            have hsk : skips x true = true := by unfold skips; rw [hf0, decide_eq_true hC, beq_eq_false_iff_ne.2 hG]; rfl
            clear hC hG
            have Hfr := Lib.hid (show foldRec x true F1 = F1 by unfold foldRec; rw [hsk]; rfl)
            clear hsk
            go_wp2_with fail
            go_roundw
            case rel => exact ⟨2, by omega, rfl, ⟨d0, hd0, HO.out⟩, ⟨d1, by omega, (fun h => absurd h (by omega)), by show PtsAt _ _ _ _ (foldRec x true F1); rw [Hfr.out]; exact HQ.out⟩, (fun h => absurd h (by omega)), HK⟩
            case measure => simp [intOf]
    · obtain rfl : k = 2 := by omega
      obtain ⟨d0, hd0, hq0⟩ := HP0.out
      obtain ⟨d1, hd1, _, hq1⟩ := HP1.out
      rw [if_pos (by omega)] at hq0 hq1
      have hfin : FoldingSaid x B m0 m1 c0 c1 F0 F1 w (.returned (.tuple #[])) wr := ⟨rfl, ⟨d0, hd0, hq0⟩, ⟨d1, hd1, hq1⟩, hK0.trans HK.out⟩
      obtain ⟨FS, hFS⟩ : ∃ FS : Prop, FS = FoldingSaid x B m0 m1 c0 c1 F0 F1 w (.returned (.tuple #[])) wr := ⟨_, rfl⟩
      have Hfin := Lib.hid (hFS.symm ▸ hfin : FS)
      have HFS := Lib.hid hFS
      clear hFS
      clear HP0 HP1 HPz hq0 hq1 HK HRd HE hfin
      go_wp2_with fail
      exact ⟨rfl, _, results_none rfl _ _ _, HFS.out ▸ Hfin.out⟩
end Go.Proofs.YtmdkjljcnegmeaaDoor
