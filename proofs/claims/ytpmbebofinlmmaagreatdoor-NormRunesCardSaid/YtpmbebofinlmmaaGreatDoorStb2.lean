/- slices.stableCmpFunc, SortStableFunc of norm's parts: the stable order. -/
import Derived.Test.YtpmbebofinlmmaaGreatDoorStb
import Derived.Shelf.SlSortCmp.PdqK
namespace Go.Proofs.YtpmbebofinlmmaaGreatDoor
open Go.Shelf Go.RowKit Go.Lib Go.Sort Stb
set_option linter.unusedVariables false
set_option linter.unusedSimpArgs false

theorem ins_walk {blk off cap : Nat} {d0 : Array Part} {w0 : World} (R : RowK ptCells 4 w0 blk off d0) (a b : Nat) (d : Array Part) (w : World) (hs : d0.size = d.size) (S : SWK ptCells 4 w0 blk off d w) (hab : a ≤ b) (hb : b ≤ d.size) (hsz : d.size < 1000000000) :
    Calls Tryz.prog 157 #[.slice (some ⟨blk, off, none⟩) d.size cap, .int .i64 a, .int .i64 b, .func (.func 91) #[] #[]] w fun e w' => e = .returned (.tuple #[]) ∧ SWK ptCells 4 w0 blk off (Sort.insertionSort (ltOf ptCmp) d a b) w' :=
  AnyQ.insertionSortCmpFunc_w Tryz.laysIns 4 (fun w => Tryz.isAgg110 w) (fun w => Tryz.sizeOf110 w) ptCells ptCmp 91 #[] blk off cap a b d0 d w0 w pt_enters (pt_lays blk off d0.size w0) R hs S pt_swo hab hb (by omega)
theorem sym_walk {blk off cap : Nat} {d0 : Array Part} {w0 : World} (R : RowK ptCells 4 w0 blk off d0) (a m b : Nat) (d : Array Part) (w : World) (hs : d0.size = d.size) (S : SWK ptCells 4 w0 blk off d w) (h1 : a < m) (h2 : m < b) (h3 : b ≤ d.size) (hsz : d.size < 1000000000) :
    Calls Tryz.prog 158 #[.slice (some ⟨blk, off, none⟩) d.size cap, .int .i64 a, .int .i64 m, .int .i64 b, .func (.func 91) #[] #[]] w fun e w' => e = .returned (.tuple #[]) ∧ ∃ d', MergeSaid ptKey a m b d d' ∧ SWK ptCells 4 w0 blk off d' w' :=
  symMerge_walk stb_ok pt_enters pt_less (pt_lays blk off d0.size w0) R (b - a + 1) a m b d w (by omega) hs S h1 h2 h3 hsz
set_option maxHeartbeats 6400000 in
set_option maxRecDepth 100000 in
theorem stableCmp_walk {blk off cap : Nat} {d : Array Part} {w : World} (R : RowK ptCells 4 w blk off d) (hsz : d.size < 100000000) :
    Calls Tryz.prog 126 #[.slice (some ⟨blk, off, none⟩) d.size cap, .int .i64 d.size, .func (.func 91) #[] #[]] w fun e w' => e = .returned (.tuple #[]) ∧ ∃ d', Stable ptKey d.toList d'.toList ∧ d'.size = d.size ∧ SWK ptCells 4 w blk off d' w' := by
  have S0 := Lib.hid (SWK.start R.hH)
  obtain ⟨n, hn⟩ : ∃ n, n = d.size := ⟨_, rfl⟩
  rw [← hn]
  have HN := Lib.hid hn
  have hn1 : n < 100000000 := by omega
  clear hn hsz
  go_enter Tryz.func126, Tryz.ntmps126
  go_wp2_with fail
  go_loopg [7, 8] (n + 1) (fun kx s7 s8 wr => ∃ (q a b : Nat) (dk : Array Part), s7 = .int .i64 a ∧ s8 = .int .i64 b ∧ Hid (a = 20 * q) ∧ Hid (b = a + 20) ∧ a ≤ n ∧ n + 1 - a ≤ kx ∧ Hid (dk.size = n) ∧ Hid (SWK ptCells 4 w blk off dk wr) ∧ Hid (InBlk ptKey 20 dk 0 a) ∧ Hid (Flt ptKey d.toList dk.toList))
  case atStart => exact ⟨0, 0, 20, d, rfl, rfl, rfl, rfl, by omega, by omega, HN.out.symm, S0, blk_none _ _ _, Flt.refl _⟩
  case round =>
    clear S0
    obtain ⟨q, a, b, dk, rfl, rfl, HQ, HBA, han, hkx, HS, S1, HI, HF⟩ := hrel
    have hlt : ∀ x y, ltOf ptCmp x y = true ↔ ptKey x < ptKey y := pt_lt
    have HLT := Lib.hid hlt
    clear hlt
    by_cases hbn : b ≤ n
    · have hbz : (b : Int) ≤ (n : Int) := by omega
      have hab : a ≤ b := by have := HBA.out; omega
      have hc := ins_walk (cap := cap) R a b dk wr (by have := HS.out; have := HN.out; omega) S1.out hab (by have := HS.out; omega) (by have := HS.out; omega)
      rw [HS.out] at hc
      have HF2 := Lib.hid (insertion_flt (key := ptKey) (lt := ltOf ptCmp) (fun x y h => (HLT.out x y).1 h) a b dk (by have := HS.out; omega))
      have HI2 := Lib.hid (blk_ins (bs := 20) pt_swo HLT.out (by decide) HQ.out hab (by have := HBA.out; omega) (by have := HS.out; omega) HI.out)
      obtain ⟨b2, hb2⟩ : ∃ b2, b2 = b + 20 := ⟨_, rfl⟩
      have e1 : IntKind.i64.wrap ((b : Int) + 20) = (b2 : Int) := by rw [IntKind.wrap_i64]; omega
      have HB2 := Lib.hid hb2
      clear hb2
      go_wp2_with fail
      refine hc.mono ?_
      rintro e w1 ⟨rfl, hs1⟩
      have S2 := Lib.hid hs1
      clear hs1 hc
      go_wp2_with fail
      go_roundg (n + 1 - b)
      case measure => have := HBA.out; omega
      case rel => exact ⟨q + 1, b, b2, _, rfl, by first | rfl | (rw [e1]), (show b = 20 * (q + 1) by rw [HBA.out, HQ.out]; omega), HB2, hbn, Nat.le_refl _, HF2.out.2.trans HS.out, S2, HI2, HF.out.trans HF2.out.1⟩
    · have hbz : ¬ (b : Int) ≤ (n : Int) := by omega
      have hc := ins_walk (cap := cap) R a n dk wr (by have := HS.out; have := HN.out; omega) S1.out han (by have := HS.out; omega) (by have := HS.out; omega)
      rw [HS.out] at hc
      have HF2 := Lib.hid (insertion_flt (key := ptKey) (lt := ltOf ptCmp) (fun x y h => (HLT.out x y).1 h) a n dk (by have := HS.out; omega))
      have HI2 := Lib.hid (blk_ins (bs := 20) pt_swo HLT.out (by decide) HQ.out han (by have := HBA.out; omega) (by have := HS.out; omega) HI.out)
      go_wp2_with fail
      refine hc.mono ?_
      rintro e w1 ⟨rfl, hs1⟩
      have S2 := Lib.hid hs1
      have HF3 := Lib.hid (HF.out.trans HF2.out.1)
      have HS3 := Lib.hid (HF2.out.2.trans HS.out)
      clear hs1 hc HF HF2 HI HS S1 HQ HBA hbz hbn han
      generalize Sort.insertionSort (ltOf ptCmp) dk a n = d1 at *
      go_wp2_with fail
      go_loopg [6] (n + 1) (fun kx s6 wr => ∃ (bs : Nat) (dk : Array Part), s6 = .int .i64 bs ∧ 0 < bs ∧ bs ≤ 2 * n + 20 ∧ n + 1 - bs ≤ kx ∧ Hid (dk.size = n) ∧ Hid (SWK ptCells 4 w blk off dk wr) ∧ Hid (InBlk ptKey bs dk 0 n) ∧ Hid (Flt ptKey d.toList dk.toList))
      case atStart => exact ⟨20, d1, rfl, by omega, by omega, by omega, HS3, S2, HI2, HF3⟩
      case round =>
        clear S2 HF3 HS3 HI2
        obtain ⟨bs, dk, rfl, hbs, hbs2, hkx2, HS, S1, HI, HF⟩ := hrel
        by_cases hbn : bs < n
        · have hbz : (bs : Int) < (n : Int) := by omega
          obtain ⟨b2, hb2⟩ : ∃ b2, b2 = 2 * bs := ⟨_, rfl⟩
          have e1 : IntKind.i64.wrap (2 * (bs : Int)) = (b2 : Int) := by rw [IntKind.wrap_i64]; omega
          have e2 : IntKind.i64.wrap ((bs : Int) * 2) = (b2 : Int) := by rw [IntKind.wrap_i64]; omega
          have hb22 : b2 ≤ 2 * n + 20 := by omega
          have hb23 : bs < b2 := by omega
          have HB2 := Lib.hid hb2
          clear hb2
          go_wp2_with fail
          go_loopg [7, 8] (n + 1) (fun kx s7 s8 wx => ∃ (q a b : Nat) (dl : Array Part), s7 = .int .i64 a ∧ s8 = .int .i64 b ∧ Hid (a = b2 * q) ∧ Hid (b = a + b2) ∧ a ≤ n ∧ n + 1 - a ≤ kx ∧ Hid (dl.size = n) ∧ Hid (SWK ptCells 4 w blk off dl wx) ∧ Hid (InBlk ptKey b2 dl 0 a) ∧ Hid (InBlk ptKey bs dl a n) ∧ Hid (Flt ptKey d.toList dl.toList))
          case atStart => exact ⟨0, 0, b2, dk, rfl, by first | rfl | (rw [e1]), rfl, (show b2 = 0 + b2 by omega), by omega, by omega, HS, S1, blk_none _ _ _, HI, HF⟩
          case round =>
            clear S1 HS HI HF
            obtain ⟨q, a, b, dl, rfl, rfl, HQ, HBA, han, hkx3, HS, S1, HI, HJ, HF⟩ := hrel
            obtain ⟨m, hm⟩ : ∃ m, m = a + bs := ⟨_, rfl⟩
            have e3 : IntKind.i64.wrap ((a : Int) + (bs : Int)) = (m : Int) := by rw [IntKind.wrap_i64]; omega
            have HM := Lib.hid hm
            have ham : a < m := by omega
            clear hm
            by_cases hbl : b ≤ n
            · have hblz : (b : Int) ≤ (n : Int) := by omega
              have hmb : m < b := by have := HBA.out; have := HM.out; omega
              have hab : a < b := by omega
              have hc := sym_walk (cap := cap) R a m b dl wr (by have := HS.out; have := HN.out; omega) S1.out ham hmb (by have := HS.out; omega) (by have := HS.out; omega)
              rw [HS.out] at hc
              obtain ⟨b3, hb3⟩ : ∃ b3, b3 = b + b2 := ⟨_, rfl⟩
              have e4 : IntKind.i64.wrap ((b : Int) + (b2 : Int)) = (b3 : Int) := by rw [IntKind.wrap_i64]; omega
              have HB3 := Lib.hid hb3
              clear hb3
              go_wp2_with fail
              refine hc.mono ?_
              rintro e w1 ⟨rfl, d2, hmg, hs1⟩
              have S2 := Lib.hid hs1
              have HG := Lib.hid (blk_merge (bs := bs) (q := q) (n := n) hbs (by rw [← HB2.out]; exact HQ.out) HM.out (Nat.le_of_lt hmb) (by rw [← HB2.out, HBA.out]; exact Nat.le_refl _) hbl HS.out.symm (by rw [← HB2.out]; exact HI.out) HJ.out hmg)
              have HS2 := Lib.hid (show d2.size = n from hmg.1.trans HS.out)
              clear hs1 hc hmg
              go_wp2_with fail
              go_roundg (n + 1 - b)
              case measure => omega
              case rel => exact ⟨q + 1, b, b3, d2, rfl, by first | rfl | (rw [e4]), (show b = b2 * (q + 1) by rw [Nat.mul_succ, ← HQ.out]; exact HBA.out), HB3, hbl, Nat.le_refl _, HS2, S2, (show InBlk ptKey b2 d2 0 b by rw [HB2.out]; exact HG.out.1), HG.out.2.1, HF.out.trans HG.out.2.2⟩
            · have hblz : ¬ (b : Int) ≤ (n : Int) := by omega
              by_cases hmn : m < n
              · have hmz : (m : Int) < (n : Int) := by omega
                have hc := sym_walk (cap := cap) R a m n dl wr (by have := HS.out; have := HN.out; omega) S1.out ham hmn (by have := HS.out; omega) (by have := HS.out; omega)
                rw [HS.out] at hc
                go_wp2_with fail
                refine hc.mono ?_
                rintro e w1 ⟨rfl, d2, hmg, hs1⟩
                have S2 := Lib.hid hs1
                have HG := Lib.hid (blk_merge (bs := bs) (q := q) (n := n) hbs (by rw [← HB2.out]; exact HQ.out) HM.out (Nat.le_of_lt hmn) (by have := HBA.out; have := HB2.out; omega) (Nat.le_refl _) HS.out.symm (by rw [← HB2.out]; exact HI.out) HJ.out hmg)
                have HS2 := Lib.hid (show d2.size = n from hmg.1.trans HS.out)
                clear hs1 hc hmg
                go_wp2_with fail
                go_roundg (n + 1 - b2)
                case measure => omega
                case rel => exact ⟨b2, d2, by first | rfl | (rw [e2]), by omega, hb22, Nat.le_refl _, HS2, S2, (show InBlk ptKey b2 d2 0 n by rw [HB2.out]; exact HG.out.1), HF.out.trans HG.out.2.2⟩
              · have hmz : ¬ (m : Int) < (n : Int) := by omega
                have HG := Lib.hid (blk_tail (bs := bs) (q := q) (n := n) (key := ptKey) hbs (by rw [← HB2.out]; exact HQ.out) (by have := HM.out; omega) (by rw [← HB2.out]; exact HI.out) HJ.out)
                go_wp2_with fail
                go_roundg (n + 1 - b2)
                case measure => omega
                case rel => exact ⟨b2, dl, by first | rfl | (rw [e2]), by omega, hb22, Nat.le_refl _, HS, S1, (show InBlk ptKey b2 dl 0 n by rw [HB2.out]; exact HG.out), HF⟩
        · have hbz : ¬ (bs : Int) < (n : Int) := by omega
          go_wp2_with fail
          go_end0
          exact ⟨rfl, dk, ⟨blk_all (by omega) (by have := HS.out; omega) HI.out, HF.out⟩, by have := HS.out; have := HN.out; omega, S1.out⟩
theorem sortStable_walk {blk off cap : Nat} {d : Array Part} {w : World} (hH : HoldsK ptCells 4 w blk off d) (hblk : blk < w.heap.size) (hsz : d.size < 100000000) :
    Calls Tryz.prog 90 #[.slice (some ⟨blk, off, none⟩) d.size cap, .func (.func 91) #[] #[]] w fun e w' => e = .returned (.tuple #[]) ∧ ∃ d', Stable ptKey d.toList d'.toList ∧ d'.size = d.size ∧ SWK ptCells 4 w blk off d' w' := by
  have hc := stableCmp_walk (cap := cap) ⟨pt_len, pt_one, hH, hblk⟩ hsz
  clear hH hblk
  go_enter Tryz.func90, Tryz.ntmps90
  go_wp2_with fail
  refine hc.mono ?_
  rintro e w1 ⟨rfl, d', h1, h2, h3⟩
  have HX := Lib.hid (And.intro h1 (And.intro h2 h3))
  clear h1 h2 h3 hc
  go_wp2_with fail
  go_end0
  exact ⟨rfl, d', HX.out⟩
end Go.Proofs.YtpmbebofinlmmaaGreatDoor
