/- rubricatorref11: one, letter, quote, passed, ahead, behind, word, before, flags: what they tell is what the program's steps are. Printed by wip/tools/mkrefv.py. -/
import Derived.Test.YtkgomgfhfoomhaaGreatDoorRefK
import Derived.Test.YtkgomgfhfoomhaaGreatDoorWrdP
namespace Go.Proofs.YtkgomgfhfoomhaaGreatDoor
open Go.RowKit
set_option linter.unusedVariables false
set_option linter.unusedSimpArgs false

section
variable {w : World} {B b : Nat} {Φ : Files}
set_option maxRecDepth 100000 in
theorem word_ref (h : RefAt w B b Φ) (hok : FilesOk Φ) (r : Int) : Calls Tryz.prog 76 #[.pointer (some ⟨b, 0, none⟩), .int .i64 r] w fun e w' => e = .returned (.string ⟨(txOf Φ.word r []).toArray⟩) ∧ Below w.heap.size w w' := by
  obtain ⟨v0, v1, v2, v3, v4, v5, v6, v7, v8, f0, f1, f2, f3, f4, f5, f6, u7, u8, h0, h1, h2, h3, h4, h5, h6, h7, h8, h9⟩ := h.all
  have hc : w.cell? ⟨b, 3, none⟩ = some v3 := h0.cell 3
  have HO := Lib.hid (or_ref h4 (listOk_ne hok.word) r (by have := hok.word.le; omega) [])
  obtain ⟨A0, c0, rfl⟩ := own_slice h4.row
  rw [txOf_first (listOk_hi hok.word)]
  clear h0 h1 h2 h3 h4 h5 h6 h7 h8 h9 h
  go_enter Tryz.func76, Tryz.ntmps76
  go_wp2_with fail
  refine HO.out.mono ?_
  rintro e w1 ⟨rfl, hb⟩
  have HB := Lib.hid hb
  clear hb HO
  go_wp2_with fail
  go_ret
  exact ⟨rfl, HB.out⟩
end
set_option maxRecDepth 100000 in
theorem one11_walk (w : World) (S : ByteArray) (g c : Nat) (l : List Sp.Str) (hL : l.length ≤ 1000) (hc : ∀ (j : Nat) x, l[j]? = some x → w.cell? ⟨g, j, none⟩ = some (.string ⟨x.toArray⟩)) :
    Calls Tryz.prog 77 #[.string S, .slice (some ⟨g, 0, none⟩) l.length c] w fun e w' => e = .returned (.bool (oneB l S.toList)) ∧ w = w' := by
  have HC := Lib.hid hc
  clear hc
  go_enter Tryz.func77, Tryz.ntmps77
  go_wp2_with fail
  go_loopw [9] (fun i wr => ∃ k : Nat, k ≤ l.length ∧ i = .int .i64 k ∧ Hid (oneB l S.toList = oneB (l.drop k) S.toList) ∧ w = wr) (fun i _ => l.length - (intOf i).toNat)
  case atStart => exact ⟨0, by omega, rfl, rfl, rfl⟩
  case round =>
    obtain ⟨k, hk, rfl, HI, rfl⟩ := hrel
    by_cases hlt : k < l.length
    · have c0 := HC.out k l[k] (List.getElem?_eq_getElem hlt)
      have HI2 := Lib.hid (show oneB l S.toList = ((S.toList == l[k]) || oneB (l.drop (k + 1)) S.toList) by rw [HI.out, List.drop_eq_getElem_cons hlt]; rfl)
      generalize l[k] = x at *
      obtain ⟨X, hX⟩ : ∃ X : ByteArray, X = ⟨x.toArray⟩ := ⟨_, rfl⟩
      have hXl : X.toList = x := by rw [hX]; exact toBl _
      rw [← hX] at c0
      rw [← hXl] at HI2
      clear hX hXl HI
      cases k1 : (S.toList == X.toList) with
      | true =>
        have Hf := Lib.hid (show oneB l S.toList = true by rw [HI2.out, k1]; rfl)
        clear HI2
        go_wp2_with fail
        go_ret
        exact ⟨by rw [Hf.out]; rfl, rfl⟩
      | false =>
        have Hf := Lib.hid (show oneB l S.toList = oneB (l.drop (k + 1)) S.toList by rw [HI2.out, k1]; rfl)
        clear HI2
        go_wp2_with fail
        go_roundw
        case rel => exact ⟨k + 1, by omega, by go_num, Hf, by first | rfl | trivial⟩
        case measure => first | (simp [intOf]; done) | (simp [intOf]; omega)
    · have Hf := Lib.hid (show oneB l S.toList = false by rw [HI.out, List.drop_of_length_le (by omega)]; rfl)
      have hkl : k = l.length := by omega
      subst hkl
      clear HI
      go_wp2_with fail
      go_ret
      exact ⟨by rw [Hf.out]; rfl, rfl⟩
theorem one11_2 (W : World) (S : ByteArray) (a b : Sp.Str) : Calls Tryz.prog 77 #[.string S, .slice (some ⟨W.heap.size, 0, none⟩) 2 2] (W.alloc (.cells #[.string ⟨a.toArray⟩, .string ⟨b.toArray⟩] 9)) fun e w' => e = .returned (.bool (oneB [a, b] S.toList)) ∧ Below W.heap.size W w' := by
  refine (one11_walk _ S W.heap.size 2 [a, b] (by simp) ?_).mono ?_
  · intro j x hj
    rw [(cells_of_row (row_new W _)).1 j]
    match j, hj with
    | 0, hj => injection hj with hj; subst hj; rfl
    | 1, hj => injection hj with hj; subst hj; rfl
  · rintro e w' ⟨h1, rfl⟩
    exact ⟨h1, alloc_below _ _⟩
theorem one11_3 (W : World) (S : ByteArray) (a b c : Sp.Str) : Calls Tryz.prog 77 #[.string S, .slice (some ⟨W.heap.size, 0, none⟩) 3 3] (W.alloc (.cells #[.string ⟨a.toArray⟩, .string ⟨b.toArray⟩, .string ⟨c.toArray⟩] 9)) fun e w' => e = .returned (.bool (oneB [a, b, c] S.toList)) ∧ Below W.heap.size W w' := by
  refine (one11_walk _ S W.heap.size 3 [a, b, c] (by simp) ?_).mono ?_
  · intro j x hj
    rw [(cells_of_row (row_new W _)).1 j]
    match j, hj with
    | 0, hj => injection hj with hj; subst hj; rfl
    | 1, hj => injection hj with hj; subst hj; rfl
    | 2, hj => injection hj with hj; subst hj; rfl
  · rintro e w' ⟨h1, rfl⟩
    exact ⟨h1, alloc_below _ _⟩
theorem two_or (a b S : Sp.Str) : oneB [a, b] S = (S == a || S == b) := by simp [oneB]
theorem three_or (a b c S : Sp.Str) : oneB [a, b, c] S = (S == a || S == b || S == c) := by simp [oneB, Bool.or_assoc]
theorem passed11_walk (S : ByteArray) (w : World) : Calls Tryz.prog 78 #[.string S] w fun e w' => e = .returned (.bool (passedB S.toList)) ∧ Below w.heap.size w w' := by
  go_enter Tryz.func78, Tryz.ntmps78
  go_wp2_with fail
  refine (one11_3 _ S _ _ _).mono ?_
  rintro e w1 ⟨rfl, hb⟩
  rw [three_or]
  have HB := Lib.hid hb
  clear hb
  go_wp2_with fail
  go_ret
  exact ⟨rfl, HB.out⟩
theorem letter11_walk (S : ByteArray) (w : World) : Calls Tryz.prog 120 #[.string S] w fun e w' => e = .returned (.bool (letterB S.toList)) ∧ Below w.heap.size w w' := by
  go_enter Tryz.func120, Tryz.ntmps120
  go_wp2_with fail
  refine (one11_2 _ S _ _).mono ?_
  rintro e w1 ⟨rfl, hb⟩
  rw [two_or]
  have HB := Lib.hid hb
  clear hb
  go_wp2_with fail
  go_ret
  exact ⟨rfl, HB.out⟩
theorem quote11_walk (S : ByteArray) (w : World) : Calls Tryz.prog 121 #[.string S] w fun e w' => e = .returned (.bool (quoteB S.toList)) ∧ Below w.heap.size w w' := by
  go_enter Tryz.func121, Tryz.ntmps121
  go_wp2_with fail
  refine (one11_2 _ S _ _).mono ?_
  rintro e w1 ⟨rfl, hb⟩
  rw [two_or]
  have HB := Lib.hid hb
  clear hb
  go_wp2_with fail
  go_ret
  exact ⟨rfl, HB.out⟩
theorem wOf_at (Φ : Files) (zs : List Int) (i : Nat) (h : i < zs.length) : txOf Φ.word (zs.getD i 0) [] = wOf Φ zs i := by
  unfold wOf
  rw [if_pos (by omega), Int.toNat_natCast]
set_option maxRecDepth 100000 in
set_option maxHeartbeats 1600000 in
theorem ahead_walk {w : World} {B b : Nat} {Φ : Files} {zs : List Int} {v : Value} (hr : RefAt w B b Φ) (hok : FilesOk Φ) (hl : ListAt w v zs) (p : Int) (h1 : 0 ≤ p) (h2 : p ≤ zs.length) :
    Calls Tryz.prog 79 #[.pointer (some ⟨b, 0, none⟩), v, .int .i64 p] w fun e w' => e = .returned (.int .i64 (stepB (wOf Φ zs) zs.length p)) ∧ Below w.heap.size w w' := by
  have HS := Lib.hid (show KSt w w B b Φ zs v from ⟨Below.refl _ _, hr, hl⟩)
  obtain ⟨A0, c0, rfl, hn, hz⟩ := hl
  have a1 : IntKind.i64.wrap (p - 1) = p - 1 := by rw [IntKind.wrap_i64]; omega
  have a2 : wrap64 (p - 1) = p - 1 := by unfold wrap64; omega
  have He := Lib.hid (show stepB (wOf Φ zs) zs.length p = stopAt (wOf Φ zs) zs.length (backAt (wOf Φ zs) (p - 1)) from rfl)
  clear hr hz
  go_enter Tryz.func79, Tryz.ntmps79
  go_wp2_with fail
  go_loopw [7] (fun x wr => ∃ j : Int, -1 ≤ j ∧ j < zs.length ∧ x = .int .i64 j ∧ Hid (backAt (wOf Φ zs) (p - 1) = backAt (wOf Φ zs) j) ∧ Hid (KSt w wr B b Φ zs (.slice A0 zs.length c0))) (fun x _ => (intOf x + 1).toNat)
  case atStart => exact ⟨p - 1, by omega, by omega, rfl, rfl, HS⟩
  case round =>
    obtain ⟨j, hj1, hj2, rfl, HI, HSr⟩ := hrel
    clear HS
    have HS := HSr
    clear HSr
    by_cases h0 : 0 ≤ j
    · have d0 : decide (j ≥ 0) = true := decide_eq_true h0
      obtain ⟨q, rfl⟩ := Int.eq_ofNat_of_zero_le h0
      have hq : q < zs.length := by omega
      obtain ⟨ad, rfl, k0⟩ := HS.out.list.cellN q hq
      have Hc := Lib.hid (wOf_at Φ zs q hq)
      generalize zs.getD q 0 = y at *
      have a5 : IntKind.i64.wrap ((q : Int) - 1) = (q : Int) - 1 := by rw [IntKind.wrap_i64]; omega
      have a6 : wrap64 ((q : Int) - 1) = (q : Int) - 1 := by unfold wrap64; omega
      go_wp2_with fail
      refine (word_ref HS.out.ref hok y).mono ?_
      rintro e w_ ⟨rfl, hb_⟩
      rw [Hc.out]
      replace HS := Lib.hid (HS.out.next hb_)
      replace k0 := cell_later hb_ k0
      clear hb_
      obtain ⟨D, hD⟩ : ∃ S : ByteArray, S = ⟨(wOf Φ zs q).toArray⟩ := ⟨_, rfl⟩
      have HD := Lib.hid (show D.toList = wOf Φ zs q by rw [hD]; exact toBl _)
      rw [← hD]
      clear hD
      go_wp2_with fail
      refine (passed11_walk D _).mono ?_
      rintro e w_ ⟨rfl, hb_⟩
      replace HS := Lib.hid (HS.out.next hb_)
      replace k0 := cell_later hb_ k0
      clear hb_
      cases q3 : passedB D.toList with
      | true =>
        have HI2 := Lib.hid (show backAt (wOf Φ zs) (p - 1) = backAt (wOf Φ zs) ((q : Int) - 1) by rw [HI.out]; exact backAt_more (by rw [← HD.out]; exact q3) h0)
        clear HI HD Hc k0 q3
        go_wp2_with fail
        go_roundw
        case rel => exact ⟨(q : Int) - 1, by omega, by omega, rfl, HI2, HS⟩
        case measure => first | (simp [intOf]; done) | (simp [intOf]; omega)
      | false =>
        have Hj := Lib.hid (show stepB (wOf Φ zs) zs.length p = if lineB D.toList then -1 else (q : Int) by
          rw [He.out, HI.out, backAt_end (by rw [← HD.out]; exact q3)]
          unfold stopAt
          rw [if_neg (by omega), if_neg (by omega), ← HD.out])
        clear HI q3 He
        go_wp2_with fail
        refine (word_ref HS.out.ref hok y).mono ?_
        rintro e w_ ⟨rfl, hb_⟩
        rw [Hc.out, ← HD.out, Bl_to]
        replace HS := Lib.hid (HS.out.next hb_)
        clear hb_ k0 Hc HD
        go_wp2_with fail
        refine (one11_3 _ D _ _ _).mono ?_
        rintro e w_ ⟨rfl, hb_⟩
        rw [three_or, show (D.toList == [78, 101, 119, 108, 105, 110, 101] || D.toList == [67, 82] || D.toList == [76, 70]) = lineB D.toList from rfl]
        replace HS := Lib.hid (HS.out.next hb_)
        clear hb_
        cases q4 : lineB D.toList with
        | true =>
          have Hf := Lib.hid (show stepB (wOf Φ zs) zs.length p = -1 by rw [Hj.out, q4]; rfl)
          clear Hj q4
          go_wp2_with fail
          go_ret
          exact ⟨by rw [Hf.out]; first | done | rfl, HS.out.bel⟩
        | false =>
          have Hf := Lib.hid (show stepB (wOf Φ zs) zs.length p = q by rw [Hj.out, q4]; rfl)
          clear Hj q4
          go_wp2_with fail
          go_ret
          exact ⟨by rw [Hf.out]; first | done | rfl, HS.out.bel⟩
    · have d0 : decide (j ≥ 0) = false := decide_eq_false h0
      have hj : j = -1 := by omega
      have Hf := Lib.hid (show stepB (wOf Φ zs) zs.length p = j by
        rw [He.out, HI.out, backAt_end (by rw [wOf_out Φ zs j (by omega)]; rfl)]
        unfold stopAt
        rw [if_pos (by omega)]
        exact hj.symm)
      clear HI He hj
      go_wp2_with fail
      go_ret
      exact ⟨by rw [Hf.out]; first | done | rfl, HS.out.bel⟩
set_option maxRecDepth 100000 in
set_option maxHeartbeats 1600000 in
theorem behind_walk {w : World} {B b : Nat} {Φ : Files} {zs : List Int} {v : Value} (hr : RefAt w B b Φ) (hok : FilesOk Φ) (hl : ListAt w v zs) (p : Int) (h1 : -1 ≤ p) (h2 : p < zs.length) :
    Calls Tryz.prog 83 #[.pointer (some ⟨b, 0, none⟩), v, .int .i64 p] w fun e w' => e = .returned (.int .i64 (stepF (wOf Φ zs) zs.length p)) ∧ Below w.heap.size w w' := by
  have HS := Lib.hid (show KSt w w B b Φ zs v from ⟨Below.refl _ _, hr, hl⟩)
  obtain ⟨A0, c0, rfl, hn, hz⟩ := hl
  have a1 : IntKind.i64.wrap (p + 1) = p + 1 := by rw [IntKind.wrap_i64]; omega
  have a2 : wrap64 (p + 1) = p + 1 := by unfold wrap64; omega
  have He := Lib.hid (show stepF (wOf Φ zs) zs.length p = stopAt (wOf Φ zs) zs.length (fwdAt (wOf Φ zs) zs.length (p + 1)) from rfl)
  clear hr hz
  go_enter Tryz.func83, Tryz.ntmps83
  go_wp2_with fail
  go_loopw [7] (fun x wr => ∃ j : Nat, j ≤ zs.length ∧ x = .int .i64 (j : Nat) ∧ Hid (fwdAt (wOf Φ zs) zs.length (p + 1) = fwdAt (wOf Φ zs) zs.length j) ∧ Hid (KSt w wr B b Φ zs (.slice A0 zs.length c0))) (fun x _ => ((zs.length : Int) + 1 - intOf x).toNat)
  case atStart => exact ⟨(p + 1).toNat, by omega, by congr 1; omega, by show _ = _; rw [show (((p + 1).toNat : Nat) : Int) = p + 1 by omega], HS⟩
  case round =>
    obtain ⟨q, hq1, rfl, HI, HSr⟩ := hrel
    clear HS
    have HS := HSr
    clear HSr
    by_cases hq : q < zs.length
    · have d0 := decide_eq_true (show (q : Int) < (zs.length : Int) by omega)
      have d9 := decide_eq_false (show ¬ (q : Int) ≥ (zs.length : Int) by omega)
      obtain ⟨ad, rfl, k0⟩ := HS.out.list.cellN q hq
      have Hc := Lib.hid (wOf_at Φ zs q hq)
      generalize zs.getD q 0 = y at *
      have a5 : IntKind.i64.wrap ((q : Int) + 1) = (q : Int) + 1 := by rw [IntKind.wrap_i64]; omega
      have a6 : wrap64 ((q : Int) + 1) = (q : Int) + 1 := by unfold wrap64; omega
      go_wp2_with fail
      refine (word_ref HS.out.ref hok y).mono ?_
      rintro e w_ ⟨rfl, hb_⟩
      rw [Hc.out]
      replace HS := Lib.hid (HS.out.next hb_)
      replace k0 := cell_later hb_ k0
      clear hb_
      obtain ⟨D, hD⟩ : ∃ S : ByteArray, S = ⟨(wOf Φ zs q).toArray⟩ := ⟨_, rfl⟩
      have HD := Lib.hid (show D.toList = wOf Φ zs q by rw [hD]; exact toBl _)
      rw [← hD]
      clear hD
      go_wp2_with fail
      refine (passed11_walk D _).mono ?_
      rintro e w_ ⟨rfl, hb_⟩
      replace HS := Lib.hid (HS.out.next hb_)
      replace k0 := cell_later hb_ k0
      clear hb_
      cases q3 : passedB D.toList with
      | true =>
        have HI2 := Lib.hid (show fwdAt (wOf Φ zs) zs.length (p + 1) = fwdAt (wOf Φ zs) zs.length ((q + 1 : Nat) : Int) by rw [HI.out]; exact fwdAt_more (by rw [← HD.out]; exact q3) (by omega))
        clear HI HD Hc k0 q3
        go_wp2_with fail
        go_roundw
        case rel => exact ⟨q + 1, by omega, by go_num, HI2, HS⟩
        case measure => first | (simp [intOf]; done) | (simp [intOf]; omega)
      | false =>
        have Hj := Lib.hid (show stepF (wOf Φ zs) zs.length p = if lineB D.toList then -1 else (q : Int) by
          rw [He.out, HI.out, fwdAt_end (by rw [← HD.out]; exact q3)]
          unfold stopAt
          rw [if_neg (by omega), if_neg (by omega), ← HD.out])
        clear HI q3 He
        go_wp2_with fail
        refine (word_ref HS.out.ref hok y).mono ?_
        rintro e w_ ⟨rfl, hb_⟩
        rw [Hc.out, ← HD.out, Bl_to]
        replace HS := Lib.hid (HS.out.next hb_)
        clear hb_ k0 Hc HD
        go_wp2_with fail
        refine (one11_3 _ D _ _ _).mono ?_
        rintro e w_ ⟨rfl, hb_⟩
        rw [three_or, show (D.toList == [78, 101, 119, 108, 105, 110, 101] || D.toList == [67, 82] || D.toList == [76, 70]) = lineB D.toList from rfl]
        replace HS := Lib.hid (HS.out.next hb_)
        clear hb_
        cases q4 : lineB D.toList with
        | true =>
          have Hf := Lib.hid (show stepF (wOf Φ zs) zs.length p = -1 by rw [Hj.out, q4]; rfl)
          clear Hj q4
          go_wp2_with fail
          go_ret
          exact ⟨by rw [Hf.out]; first | done | rfl, HS.out.bel⟩
        | false =>
          have Hf := Lib.hid (show stepF (wOf Φ zs) zs.length p = q by rw [Hj.out, q4]; rfl)
          clear Hj q4
          go_wp2_with fail
          go_ret
          exact ⟨by rw [Hf.out]; first | done | rfl, HS.out.bel⟩
    · have hqe : q = zs.length := by omega
      have d0 := decide_eq_false (show ¬ (zs.length : Int) < (zs.length : Int) by omega)
      have d9 := decide_eq_true (show (zs.length : Int) ≥ (zs.length : Int) by omega)
      have Hf := Lib.hid (show stepF (wOf Φ zs) zs.length p = -1 by
        rw [He.out, HI.out, fwdAt_end (by rw [wOf_out Φ zs q (by omega)]; rfl)]
        unfold stopAt
        rw [if_neg (by omega), if_pos (by omega)])
      subst hqe
      clear HI He
      go_wp2_with fail
      go_ret
      exact ⟨by rw [Hf.out]; first | done | rfl, HS.out.bel⟩
set_option maxRecDepth 100000 in
theorem word11_walk {w : World} {B b : Nat} {Φ : Files} {zs : List Int} {v : Value} (hr : RefAt w B b Φ) (hok : FilesOk Φ) (hl : ListAt w v zs) (p : Int) (h2 : p < zs.length) :
    Calls Tryz.prog 80 #[.pointer (some ⟨b, 0, none⟩), v, .int .i64 p] w fun e w' => e = .returned (.string ⟨(wOf Φ zs p).toArray⟩) ∧ Below w.heap.size w w' := by
  have HS := Lib.hid (show KSt w w B b Φ zs v from ⟨Below.refl _ _, hr, hl⟩)
  obtain ⟨A0, c0, rfl, hn, hz⟩ := hl
  clear hr hz
  go_enter Tryz.func80, Tryz.ntmps80
  by_cases h0 : p < 0
  · have d0 : decide (p < 0) = true := decide_eq_true h0
    rw [wOf_out Φ zs p (.inl h0)]
    go_wp2_with fail
    go_ret
    exact ⟨rfl, HS.out.bel⟩
  · have d0 : decide (p < 0) = false := decide_eq_false h0
    obtain ⟨q, rfl⟩ := Int.eq_ofNat_of_zero_le (show 0 ≤ p by omega)
    have hq : q < zs.length := by omega
    obtain ⟨ad, rfl, k0⟩ := HS.out.list.cellN q hq
    rw [← wOf_at Φ zs q hq]
    generalize zs.getD q 0 = y at *
    go_wp2_with fail
    refine (word_ref HS.out.ref hok y).mono ?_
    rintro e w_ ⟨rfl, hb_⟩
    replace HS := Lib.hid (HS.out.next hb_)
    clear hb_ k0
    go_wp2_with fail
    go_ret
    exact ⟨rfl, HS.out.bel⟩
set_option maxRecDepth 100000 in
theorem before_walk {w : World} {B b : Nat} {Φ : Files} {zs : List Int} {v : Value} (hr : RefAt w B b Φ) (hok : FilesOk Φ) (hl : ListAt w v zs) (p : Int) (h2 : p < zs.length) :
    Calls Tryz.prog 82 #[.pointer (some ⟨b, 0, none⟩), v, .int .i64 p] w fun e w' => e = .returned (.string ⟨(wOf Φ zs (farOf (wOf Φ zs) zs.length p)).toArray⟩) ∧ Below w.heap.size w w' := by
  have HS := Lib.hid (show KSt w w B b Φ zs v from ⟨Below.refl _ _, hr, hl⟩)
  obtain ⟨A0, c0, rfl, hn, hz⟩ := hl
  clear hr hz
  go_enter Tryz.func82, Tryz.ntmps82
  by_cases h0 : p < 0
  · have d0 : decide (p < 0) = true := decide_eq_true h0
    rw [show farOf (wOf Φ zs) zs.length p = -1 by unfold farOf; rw [if_neg (by omega)], wOf_out Φ zs (-1) (.inl (by decide))]
    go_wp2_with fail
    go_ret
    exact ⟨rfl, HS.out.bel⟩
  · have d0 : decide (p < 0) = false := decide_eq_false h0
    have Hst := Lib.hid (show stepB (wOf Φ zs) zs.length p < zs.length by unfold stepB; exact stopAt_lt _ _ _)
    rw [show farOf (wOf Φ zs) zs.length p = stepB (wOf Φ zs) zs.length p by unfold farOf; rw [if_pos (by omega)]]
    go_wp2_with fail
    refine (ahead_walk HS.out.ref hok HS.out.list p (by omega) (by omega)).mono ?_
    rintro e w_ ⟨rfl, hb_⟩
    replace HS := Lib.hid (HS.out.next hb_)
    clear hb_
    obtain ⟨j, Hj⟩ : ∃ j, Hid (j = stepB (wOf Φ zs) zs.length p) := ⟨_, rfl⟩
    rw [← Hj.out] at Hst ⊢
    go_wp2_with fail
    refine (word11_walk HS.out.ref hok HS.out.list j Hst.out).mono ?_
    rintro e w_ ⟨rfl, hb_⟩
    replace HS := Lib.hid (HS.out.next hb_)
    clear hb_
    go_wp2_with fail
    go_ret
    exact ⟨by first | rfl | (rw [← Hj.out]; first | done | rfl), HS.out.bel⟩
set_option maxRecDepth 100000 in
set_option maxHeartbeats 1600000 in
theorem flags11_walk {w : World} {B b : Nat} {Φ : Files} {zs : List Int} {v : Value} (hr : RefAt w B b Φ) (hok : FilesOk Φ) (hl : ListAt w v zs) (p : Int) (h1 : 0 ≤ p) (h2 : p ≤ zs.length) :
    Calls Tryz.prog 84 #[.pointer (some ⟨b, 0, none⟩), v, .int .i64 p] w fun e w' => e = .returned (.int .i64 (flagsW (wOf Φ zs) zs.length (stepB (wOf Φ zs) zs.length p) : Nat)) ∧ Below w.heap.size w w' := by
  have HS := Lib.hid (show KSt w w B b Φ zs v from ⟨Below.refl _ _, hr, hl⟩)
  have hge := stepB_ge (wOf Φ zs) zs.length p
  have hlt : stepB (wOf Φ zs) zs.length p < zs.length := by unfold stepB; exact stopAt_lt _ _ _
  obtain ⟨A0, c0, rfl, hn, hz⟩ := hl
  clear hr hz
  go_enter Tryz.func84, Tryz.ntmps84
  go_wp2_with fail
  refine (ahead_walk HS.out.ref hok HS.out.list p h1 h2).mono ?_
  rintro e w_ ⟨rfl, hb_⟩
  replace HS := Lib.hid (HS.out.next hb_)
  clear hb_
  obtain ⟨i0, Hi0⟩ : ∃ i0, Hid (i0 = stepB (wOf Φ zs) zs.length p) := ⟨_, rfl⟩
  rw [← Hi0.out] at hge hlt
  rw [← Hi0.out]
  go_wp2_with fail
  go_loopw [7, 8] (fun c i wr => ∃ (k : Nat) (j : Int), c = .int .i64 k ∧ i = .int .i64 j ∧ (-1 ≤ j ∧ j < zs.length ∧ (k : Int) + j + 1 ≤ zs.length) ∧ Hid (flagsW (wOf Φ zs) zs.length i0 = k + flagsW (wOf Φ zs) zs.length j) ∧ Hid (KSt w wr B b Φ zs (.slice A0 zs.length c0))) (fun _ i _ => (intOf i + 1).toNat)
  case atStart => exact ⟨0, i0, rfl, rfl, by omega, by show _ = _; omega, HS⟩
  case round =>
    obtain ⟨k, j, rfl, rfl, hj, HI, HSr⟩ := hrel
    clear HS
    have HS := HSr
    clear HSr
    by_cases h0 : 0 ≤ j
    · have d0 : decide (j ≥ 0) = true := decide_eq_true h0
      obtain ⟨q, rfl⟩ := Int.eq_ofNat_of_zero_le h0
      have hq : q < zs.length := by omega
      obtain ⟨ad, rfl, k0⟩ := HS.out.list.cellN q hq
      have Hc := Lib.hid (wOf_at Φ zs q hq)
      generalize zs.getD q 0 = y at *
      go_wp2_with fail
      refine (word_ref HS.out.ref hok y).mono ?_
      rintro e w_ ⟨rfl, hb_⟩
      rw [Hc.out]
      replace HS := Lib.hid (HS.out.next hb_)
      clear hb_ k0
      obtain ⟨D, hD⟩ : ∃ S : ByteArray, S = ⟨(wOf Φ zs q).toArray⟩ := ⟨_, rfl⟩
      have HD := Lib.hid (show D.toList = wOf Φ zs q by rw [hD]; exact toBl _)
      rw [← hD]
      clear hD
      cases q1 : (D.toList == [70, 108, 97, 103]) with
      | false =>
        have Hv := Lib.hid (show flagsW (wOf Φ zs) zs.length i0 = k by
          rw [HI.out, flagsW_end (fun _ => by rw [← HD.out]; exact q1)]
          rfl)
        clear HI
        go_wp2_with fail
        go_ret
        exact ⟨by rw [← Hi0.out, Hv.out]; first | done | rfl, HS.out.bel⟩
      | true =>
        have H9 := Lib.hid (show flagsW (wOf Φ zs) zs.length i0 = ((k + 1 : Nat)) + flagsW (wOf Φ zs) zs.length (stepB (wOf Φ zs) zs.length q) by
          rw [HI.out, flagsW_more h0 (by rw [← HD.out]; exact q1)]
          omega)
        have hsl := stepB_lt (wOf Φ zs) zs.length q h0
        have hsg := stepB_ge (wOf Φ zs) zs.length q
        have b1 : IntKind.i64.wrap ((k : Int) + 1) = (k : Int) + 1 := by rw [IntKind.wrap_i64]; omega
        clear HI HD Hc
        go_wp2_with fail
        refine (ahead_walk HS.out.ref hok HS.out.list q (by omega) (by omega)).mono ?_
        rintro e w_ ⟨rfl, hb_⟩
        replace HS := Lib.hid (HS.out.next hb_)
        clear hb_
        generalize stepB (wOf Φ zs) zs.length q = j2 at *
        go_wp2_with fail
        go_roundw
        case rel => exact ⟨k + 1, j2, by go_num, rfl, by omega, H9, HS⟩
        case measure => simp only [intOf]; omega
    · have d0 : decide (j ≥ 0) = false := decide_eq_false h0
      have Hv := Lib.hid (show flagsW (wOf Φ zs) zs.length i0 = k by
        rw [HI.out, flagsW_end (fun h => absurd h h0)]
        rfl)
      clear HI
      go_wp2_with fail
      go_ret
      exact ⟨by rw [← Hi0.out, Hv.out]; first | done | rfl, HS.out.bel⟩
end Go.Proofs.YtkgomgfhfoomhaaGreatDoor
