/- cluster.Edge. -/
import Derived.Test.YtmdkjljcnegmeaaDoorCluC
namespace Go.Proofs.YtmdkjljcnegmeaaDoor
open Go.RowKit
set_option linter.unusedVariables false
set_option linter.unusedSimpArgs false

/-! ### what it tells -/
def skipsTo (K : Int → Nat) : Nat → Int → Int
  | 0, i => i
  | n + 1, i => if K i = 4 then skipsTo K n (i - 1) else i
def skipsAt (K : Int → Nat) (i : Int) : Int := skipsTo K (i + 1).toNat i
theorem skipsAt_more {K : Int → Nat} {i : Int} (h : K i = 4) (hi : 0 ≤ i) : skipsAt K i = skipsAt K (i - 1) := by
  unfold skipsAt
  obtain ⟨n, rfl⟩ := Int.eq_ofNat_of_zero_le hi
  rw [show ((n : Int) + 1).toNat = n + 1 by omega, show ((n : Int) - 1 + 1).toNat = n by omega, skipsTo, if_pos h]
theorem skipsAt_end {K : Int → Nat} {i : Int} (h : K i ≠ 4) : skipsAt K i = i := by
  unfold skipsAt
  cases (i + 1).toNat with
  | zero => rfl
  | succ n => rw [skipsTo, if_neg h]
def flagsTo (K : Int → Nat) : Nat → Int → Nat
  | 0, _ => 0
  | f + 1, j => if K j = 9 then 1 + flagsTo K f (j - 1) else 0
def flagsAt (K : Int → Nat) (j : Int) : Nat := flagsTo K (j + 1).toNat j
theorem flagsAt_more {K : Int → Nat} {i : Int} (h : K i = 9) (hi : 0 ≤ i) : flagsAt K i = 1 + flagsAt K (i - 1) := by
  unfold flagsAt
  obtain ⟨n, rfl⟩ := Int.eq_ofNat_of_zero_le hi
  rw [show ((n : Int) + 1).toNat = n + 1 by omega, show ((n : Int) - 1 + 1).toNat = n by omega, flagsTo, if_pos h]
theorem flagsAt_end {K : Int → Nat} {i : Int} (h : K i ≠ 9) : flagsAt K i = 0 := by
  unfold flagsAt
  cases (i + 1).toNat with
  | zero => rfl
  | succ n => rw [flagsTo, if_neg h]
def edgeMid (a b : Nat) (x y : Bool) : Bool :=
  if gluedB a b then false else if (1 ≤ a ∧ a ≤ 3) ∨ (1 ≤ b ∧ b ≤ 3) then true else if b = 4 ∨ b = 5 ∨ b = 6 ∨ a = 7 then false else if a = 5 ∧ b = 8 then x else if a = 9 ∧ b = 9 then y else true
def edgeOf (Φ : Files) (zs : List Int) (p : Int) : Bool :=
  if zs.length = 0 ∨ p < 0 ∨ (zs.length : Int) < p then false else if p = 0 ∨ p = zs.length then true
  else edgeMid (ofK Φ zs (p - 1)) (ofK Φ zs p) (ofK Φ zs (skipsAt (ofK Φ zs) (p - 2)) != 8) (flagsAt (ofK Φ zs) (p - 1) % 2 == 0)

/-! ### the walk -/
structure EdgeSt (w : World) (m b3 b4 : Nat) (Φ : Files) (zs : List Int) (v : Value) : Prop where
  tab : TabAt w m Φ
  list : ListAt w v zs
  c3 : w.cell? ⟨b3, 0, none⟩ = some (.pointer (some ⟨m + 3, 0, none⟩))
  c4 : w.cell? ⟨b4, 0, none⟩ = some v
theorem EdgeSt.below {w w' : World} {m b3 b4 : Nat} {Φ : Files} {zs : List Int} {v : Value} (h : EdgeSt w m b3 b4 Φ zs v) (hb : Below w.heap.size w w') : EdgeSt w' m b3 b4 Φ zs v := ⟨h.tab.below hb, h.list.below hb, cell_later hb h.c3, cell_later hb h.c4⟩
theorem EdgeSt.of {w : World} {m b3 b4 : Nat} {Φ : Files} {zs : List Int} {v : Value} (h : EdgeSt w m b3 b4 Φ zs v) (hfo : FilesOk Φ) (i : Int) (hi : i < zs.length) :
    Calls Tryd.prog 40 #[.int .i64 i, .pointer (some ⟨b3, 0, none⟩), .pointer (some ⟨b4, 0, none⟩)] w fun e w' => e = .returned (.int .i64 (ofK Φ zs i)) ∧ Below w.heap.size w w' := of_walk h.tab hfo h.list h.c3 h.c4 i hi
set_option maxRecDepth 100000 in
set_option maxHeartbeats 1600000 in
theorem edge_walk {w : World} {m : Nat} {Φ : Files} {zs : List Int} {v : Value} (ht : TabAt w m Φ) (hfo : FilesOk Φ) (hcat : txOf Φ.cat 0 [67, 110] ≠ []) (hl : ListAt w v zs) (p : Int) (hp : (Lit.int .i64 p).wf = true) :
    Calls Tryd.prog 18 #[.pointer (some ⟨m + 3, 0, none⟩), v, .int .i64 p] w fun e w' => e = .returned (.bool (edgeOf Φ zs p)) ∧ Below w.heap.size w w' := by
  obtain ⟨A, c, rfl, hn, hz⟩ := hl
  obtain ⟨W0, hW0⟩ : ∃ W0, W0 = (w.alloc (.cells #[.pointer (some ⟨m + 3, 0, none⟩)] 22)).alloc (.cells #[.slice A zs.length c] 25) := ⟨_, rfl⟩
  have hb1 := alloc_below w (.cells #[.pointer (some ⟨m + 3, 0, none⟩)] 22)
  have hb2 := alloc_below (w.alloc (.cells #[.pointer (some ⟨m + 3, 0, none⟩)] 22)) (.cells #[.slice A zs.length c] 25)
  have hb0 : Below w.heap.size w W0 := by rw [hW0]; exact hb1.trans (hb2.mono hb1.size)
  have hS : EdgeSt W0 m w.heap.size (w.heap.size + 1) Φ zs (.slice A zs.length c) := by
    refine ⟨ht.below hb0, ListAt.below ⟨A, c, rfl, hn, hz⟩ hb0, ?_, ?_⟩
    · rw [hW0]
      exact cell_later hb2 ((cells_of_row (row_new w _)).1 0)
    · rw [hW0]
      have := (cells_of_row (row_new (w.alloc (.cells #[.pointer (some ⟨m + 3, 0, none⟩)] 22)) (.cells #[.slice A zs.length c] 25))).1 0
      rw [size_new] at this
      exact this
  have hcw := category_walk hS.tab hfo 0
  have hcs : (⟨(txOf Φ.cat 0 [67, 110]).toArray⟩ : ByteArray).toList.isEmpty = false := by
    rw [show (⟨(txOf Φ.cat 0 [67, 110]).toArray⟩ : ByteArray).toList = txOf Φ.cat 0 [67, 110] from toBl _]
    exact List.isEmpty_eq_false_iff.2 hcat
  generalize (⟨(txOf Φ.cat 0 [67, 110]).toArray⟩ : ByteArray) = cs at *
  have HCW := Lib.hid hcw
  have HS := Lib.hid hS
  have HB0 := Lib.hid hb0
  have s3 := hS.c3
  have s4 := hS.c4
  have hsz := Lib.hid (show W0.heap.size = w.heap.size + 2 by rw [hW0, size_new, size_new])
  clear hcw hS hb0 hb1 hb2 ht hz hcat
  go_enter Tryd.func18, Tryd.ntmps18
  go_wp2_with fail
  rw [← hW0]
  clear hW0 s3 s4
  refine HCW.out.mono ?_
  rintro e w1 ⟨rfl, hb1⟩
  have HS1 := Lib.hid (HS.out.below hb1)
  have HB1 := Lib.hid (HB0.out.trans (hb1.mono HB0.out.size))
  have s3 := HS1.out.c3
  have s4 := HS1.out.c4
  clear hb1 HS HCW HB0 hsz
  by_cases hend : zs.length = 0 ∨ p < 0 ∨ (zs.length : Int) < p
  · have he : edgeOf Φ zs p = false := by unfold edgeOf; rw [if_pos hend]
    have He := Lib.hid he
    clear he
    go_wp2_with fail
    all_goals
      first
        | (go_ret; refine ⟨?_, HB1.out⟩; rw [He.out]; rfl)
        | (exfalso; (try simp only [beq_eq_false_iff_ne, beq_iff_eq, ne_eq, decide_eq_false_iff_not, decide_eq_true_eq] at *); omega)
  · by_cases hedge : p = 0 ∨ p = zs.length
    · have he : edgeOf Φ zs p = true := by unfold edgeOf; rw [if_neg hend, if_pos hedge]
      have He := Lib.hid he
      have g1 : ((zs.length : Int) == 0) = false := by rw [beq_eq_false_iff_ne]; omega
      have g2 : decide (p < 0) = false := by simp; omega
      have g3 : decide (p > (zs.length : Int)) = false := by simp; omega
      clear he hend
      go_wp2_with fail
      all_goals
        first
          | (go_ret; refine ⟨?_, HB1.out⟩; rw [He.out]; rfl)
          | (exfalso; (try simp only [beq_eq_false_iff_ne, beq_iff_eq, ne_eq, decide_eq_false_iff_not, decide_eq_true_eq] at *); omega)
    · have he : edgeOf Φ zs p = edgeMid (ofK Φ zs (p - 1)) (ofK Φ zs p) (ofK Φ zs (skipsAt (ofK Φ zs) (p - 2)) != 8) (flagsAt (ofK Φ zs) (p - 1) % 2 == 0) := by unfold edgeOf; rw [if_neg hend, if_neg hedge]
      have g1 : ((zs.length : Int) == 0) = false := by rw [beq_eq_false_iff_ne]; omega
      have g2 : decide (p < 0) = false := by simp; omega
      have g3 : decide (p > (zs.length : Int)) = false := by simp; omega
      have g4 : (p == 0) = false := by rw [beq_eq_false_iff_ne]; omega
      have g5 : (p == (zs.length : Int)) = false := by rw [beq_eq_false_iff_ne]; omega
      have hp1 : 1 ≤ p ∧ p < zs.length := by omega
      have a1 : IntKind.i64.wrap (p - 1) = p - 1 := by rw [IntKind.wrap_i64]; omega
      have a2 : wrap64 (p - 1) = p - 1 := by unfold wrap64; omega
      have He := Lib.hid he
      clear hend hedge he
      go_wp2_with fail
      refine (HS1.out.of hfo (p - 1) (by omega)).mono ?_
      rintro e w2 ⟨rfl, hb2⟩
      have HS2 := Lib.hid (HS1.out.below hb2)
      have HB2 := Lib.hid (HB1.out.trans (hb2.mono HB1.out.size))
      obtain ⟨a, ha⟩ : ∃ a, a = ofK Φ zs (p - 1) := ⟨_, rfl⟩
      have hal : a ≤ 14 := by rw [ha]; exact ofK_le _ _ _
      rw [← ha]
      have Ha := Lib.hid ha
      clear hb2 HS1 HB1 s3 s4 ha
      go_wp2_with fail
      refine (HS2.out.of hfo p (by omega)).mono ?_
      rintro e w3 ⟨rfl, hb3⟩
      have HS3 := Lib.hid (HS2.out.below hb3)
      have HB3 := Lib.hid (HB2.out.trans (hb3.mono HB2.out.size))
      obtain ⟨b, hb⟩ : ∃ b, b = ofK Φ zs p := ⟨_, rfl⟩
      have hbl : b ≤ 14 := by rw [hb]; exact ofK_le _ _ _
      rw [← hb]
      have Hb := Lib.hid hb
      clear hb3 HS2 HB2 hb
      go_wp2_with fail
      have hbw := alloc_below w3 (Obj.cells #[Value.int IntKind.i64 a, Value.int IntKind.i64 b] 77)
      refine (glued_walk a b hal hbl _).mono ?_
      rintro e w5 ⟨rfl, hb5⟩
      have HS5 := Lib.hid ((HS3.out.below hbw).below hb5)
      have HB5 := Lib.hid ((HB3.out.trans (hbw.mono HB3.out.size)).trans (hb5.mono (Nat.le_trans HB3.out.size hbw.size)))
      have q0 : w5.cell? ⟨w3.heap.size, 0, none⟩ = some (.int .i64 a) := cell_later hb5 ((cells_of_row (row_new w3 _)).1 0)
      have q1 : w5.cell? ⟨w3.heap.size, 1, none⟩ = some (.int .i64 b) := cell_later hb5 ((cells_of_row (row_new w3 _)).1 1)
      clear hb5 hbw HS3 HB3
      cases hg : gluedB a b with
      | true =>
        have hm : edgeOf Φ zs p = false := by rw [He.out, ← Ha.out, ← Hb.out]; unfold edgeMid; rw [hg]; rfl
        have Hm := Lib.hid hm
        clear hm hg
        go_wp2_with fail
        go_ret
        refine ⟨?_, HB5.out⟩
        rw [Hm.out]
        rfl
      | false =>
        have hm : ∀ x y, edgeMid a b x y = if (1 ≤ a ∧ a ≤ 3) ∨ (1 ≤ b ∧ b ≤ 3) then true else if b = 4 ∨ b = 5 ∨ b = 6 ∨ a = 7 then false else if a = 5 ∧ b = 8 then x else if a = 9 ∧ b = 9 then y else true := by intro x y; unfold edgeMid; rw [hg]; rfl
        have Hm := Lib.hid hm
        clear hg
        by_cases hA : (1 ≤ a ∧ a ≤ 3) ∨ (1 ≤ b ∧ b ≤ 3)
        · have hr : edgeOf Φ zs p = true := by rw [He.out, ← Ha.out, ← Hb.out, hm, if_pos hA]
          have Hr := Lib.hid hr
          clear hm hr Hm
          go_wp2_with fail
          all_goals
            first
              | (go_ret; refine ⟨?_, HB5.out⟩; rw [Hr.out]; rfl)
              | (exfalso; (try simp only [beq_eq_false_iff_ne, beq_iff_eq, ne_eq, decide_eq_false_iff_not, decide_eq_true_eq] at *); omega)
        · by_cases hBc : b = 4 ∨ b = 5 ∨ b = 6 ∨ a = 7
          · have hr : edgeOf Φ zs p = false := by rw [He.out, ← Ha.out, ← Hb.out, hm, if_neg hA, if_pos hBc]
            have Hr := Lib.hid hr
            clear hm hr Hm
            go_wp2_with fail
            all_goals
              first
                | (go_ret; refine ⟨?_, HB5.out⟩; rw [Hr.out]; rfl)
                | (exfalso; (try simp only [beq_eq_false_iff_ne, beq_iff_eq, ne_eq, decide_eq_false_iff_not, decide_eq_true_eq] at *); omega)
          · by_cases hC : a = 5 ∧ b = 8
            · have hr : edgeOf Φ zs p = (ofK Φ zs (skipsAt (ofK Φ zs) (p - 2)) != 8) := by rw [He.out, ← Ha.out, ← Hb.out, hm, if_neg hA, if_neg hBc, if_pos hC]
              have Hr := Lib.hid hr
              obtain ⟨rfl, rfl⟩ := hC
              clear hm hr Hm hA hBc
              have b2 : IntKind.i64.wrap (p - 2) = p - 2 := by rw [IntKind.wrap_i64]; omega
              go_wp2_with fail
              go_loopw [9] (fun x wr => ∃ q : Int, -1 ≤ q ∧ q ≤ p - 2 ∧ x = .int .i64 q ∧ skipsAt (ofK Φ zs) (p - 2) = skipsAt (ofK Φ zs) q ∧ Hid (Below w5.heap.size w5 wr)) (fun x _ => (intOf x + 1).toNat)
              case atStart => exact ⟨p - 2, by omega, by omega, rfl, rfl, Below.refl _ _⟩
              case round =>
                obtain ⟨q, hq1, hq2, rfl, hsk, HB⟩ := hrel
                have HSr := Lib.hid (HS5.out.below HB.out)
                have Hsk := Lib.hid hsk
                clear hsk
                go_wp2_with fail
                refine (HSr.out.of hfo q (by omega)).mono ?_
                rintro e w6 ⟨rfl, hb6⟩
                have HB6 := Lib.hid (HB.out.trans (hb6.mono HB.out.size))
                have HS6 := Lib.hid (HSr.out.below hb6)
                obtain ⟨k, hk⟩ : ∃ k, k = ofK Φ zs q := ⟨_, rfl⟩
                rw [← hk]
                have Hk := Lib.hid hk
                have hq0 : q < 0 → k = 0 := fun h => by rw [hk]; unfold ofK; rw [if_pos h]
                clear hb6 HSr HB hk
                by_cases h4 : k = 4
                · have hq3 : 0 ≤ q := by
                    rcases Int.lt_or_le q 0 with h | h
                    · rw [hq0 h] at h4; cases h4
                    · exact h
                  have b3 : IntKind.i64.wrap (q - 1) = q - 1 := by rw [IntKind.wrap_i64]; omega
                  subst h4
                  clear hq0
                  go_wp2_with fail
                  go_roundw
                  case rel => exact ⟨q - 1, by omega, by omega, rfl, by rw [Hsk.out, skipsAt_more Hk.out.symm hq3], HB6⟩
                  case measure => simp [intOf]; omega
                · have d4 : ((k : Int) == 4) = false := by rw [beq_eq_false_iff_ne]; omega
                  have hfin : skipsAt (ofK Φ zs) (p - 2) = q := by rw [Hsk.out]; exact skipsAt_end (by rw [← Hk.out]; exact h4)
                  have Hfin := Lib.hid hfin
                  clear h4 hfin hq0
                  go_wp2_with fail
                  refine (HS6.out.of hfo q (by omega)).mono ?_
                  rintro e w7 ⟨rfl, hb7⟩
                  rw [← Hk.out]
                  have HB7 := Lib.hid (HB5.out.trans ((HB6.out.trans (hb7.mono HB6.out.size)).mono HB5.out.size))
                  clear hb7 HS6 HB6
                  by_cases h8 : k = 8
                  · have d8 : ((k : Int) != 8) = false := by rw [h8]; rfl
                    have hv : (k != 8) = false := by rw [h8]; rfl
                    have Hv := Lib.hid hv
                    clear h8 hv
                    go_wp2_with fail
                    go_ret
                    refine ⟨?_, HB7.out⟩
                    rw [Hr.out, Hfin.out, ← Hk.out, Hv.out]
                    rfl
                  · have d8 : ((k : Int) != 8) = true := by rw [bne_iff_ne]; omega
                    have hv : (k != 8) = true := by rw [bne_iff_ne]; exact h8
                    have Hv := Lib.hid hv
                    clear h8 hv
                    go_wp2_with fail
                    go_ret
                    refine ⟨?_, HB7.out⟩
                    rw [Hr.out, Hfin.out, ← Hk.out, Hv.out]
                    rfl
            · by_cases hD : a = 9 ∧ b = 9
              · have hr : edgeOf Φ zs p = (flagsAt (ofK Φ zs) (p - 1) % 2 == 0) := by rw [He.out, ← Ha.out, ← Hb.out, hm, if_neg hA, if_neg hBc, if_neg hC, if_pos hD]
                have Hr := Lib.hid hr
                obtain ⟨rfl, rfl⟩ := hD
                clear hm hr Hm hA hBc hC
                go_wp2_with fail
                go_loopw [10] (fun x wr => ∃ n : Nat, (n : Int) ≤ p ∧ x = .int .i64 n ∧ flagsAt (ofK Φ zs) (p - 1) = n + flagsAt (ofK Φ zs) (p - 1 - n) ∧ Hid (Below w5.heap.size w5 wr)) (fun x _ => (p - intOf x).toNat)
                case atStart => exact ⟨0, by omega, rfl, by simp, Below.refl _ _⟩
                case round =>
                  obtain ⟨n, hnp, rfl, hsk, HB⟩ := hrel
                  have HSr := Lib.hid (HS5.out.below HB.out)
                  have Hsk := Lib.hid hsk
                  have b4 : IntKind.i64.wrap (p - 1 - n) = p - 1 - n := by rw [IntKind.wrap_i64]; omega
                  clear hsk
                  go_wp2_with fail
                  refine (HSr.out.of hfo (p - 1 - n) (by omega)).mono ?_
                  rintro e w6 ⟨rfl, hb6⟩
                  have HB6 := Lib.hid (HB.out.trans (hb6.mono HB.out.size))
                  obtain ⟨k, hk⟩ : ∃ k, k = ofK Φ zs (p - 1 - n) := ⟨_, rfl⟩
                  rw [← hk]
                  have Hk := Lib.hid hk
                  have hq0 : p - 1 - n < 0 → k = 0 := fun h => by rw [hk]; unfold ofK; rw [if_pos h]
                  clear hb6 HSr HB hk
                  by_cases h9 : k = 9
                  · have hq3 : 0 ≤ p - 1 - n := by
                      rcases Int.lt_or_le (p - 1 - n) 0 with h | h
                      · rw [hq0 h] at h9; cases h9
                      · exact h
                    have b5 : IntKind.i64.wrap ((n : Int) + 1) = n + 1 := by rw [IntKind.wrap_i64]; omega
                    have hmore : flagsAt (ofK Φ zs) (p - 1) = (n + 1) + flagsAt (ofK Φ zs) (p - 1 - ((n + 1 : Nat) : Int)) := by
                      rw [Hsk.out, flagsAt_more (Hk.out.symm.trans h9) hq3, show p - 1 - ((n + 1 : Nat) : Int) = p - 1 - n - 1 by omega]
                      omega
                    have Hmore := Lib.hid hmore
                    subst h9
                    clear hq0 hmore
                    go_wp2_with fail
                    go_roundw
                    case rel => exact ⟨n + 1, by omega, by go_num, Hmore.out, HB6⟩
                    case measure => simp [intOf]; omega
                  · have d9 : ((k : Int) == 9) = false := by rw [beq_eq_false_iff_ne]; omega
                    have hfin : flagsAt (ofK Φ zs) (p - 1) = n := by rw [Hsk.out, flagsAt_end (by rw [← Hk.out]; exact h9)]; omega
                    have Hfin := Lib.hid hfin
                    have HB7 := Lib.hid (HB5.out.trans (HB6.out.mono HB5.out.size))
                    clear h9 hfin hq0
                    by_cases h2 : (n : Int) % 2 = 0
                    · have d2 : ((n : Int) % 2 == 0) = true := by rw [beq_iff_eq]; omega
                      have hv : (n % 2 == 0) = true := by rw [beq_iff_eq]; omega
                      have Hv := Lib.hid hv
                      clear h2 hv
                      go_wp2_with fail
                      go_ret
                      refine ⟨?_, HB7.out⟩
                      rw [Hr.out, Hfin.out, Hv.out]
                      rfl
                    · have d2 : ((n : Int) % 2 == 0) = false := by rw [beq_eq_false_iff_ne]; omega
                      have hv : (n % 2 == 0) = false := by rw [beq_eq_false_iff_ne]; omega
                      have Hv := Lib.hid hv
                      clear h2 hv
                      go_wp2_with fail
                      go_ret
                      refine ⟨?_, HB7.out⟩
                      rw [Hr.out, Hfin.out, Hv.out]
                      rfl
              · have hr : edgeOf Φ zs p = true := by rw [He.out, ← Ha.out, ← Hb.out, hm, if_neg hA, if_neg hBc, if_neg hC, if_neg hD]
                have Hr := Lib.hid hr
                clear hm hr Hm
                go_wp2_with fail
                all_goals
                  first
                    | (go_ret; refine ⟨?_, HB5.out⟩; rw [Hr.out]; rfl)
                    | (exfalso; (try simp only [beq_eq_false_iff_ne, beq_iff_eq, ne_eq, decide_eq_false_iff_not, decide_eq_true_eq] at *); omega)
end Go.Proofs.YtmdkjljcnegmeaaDoor
