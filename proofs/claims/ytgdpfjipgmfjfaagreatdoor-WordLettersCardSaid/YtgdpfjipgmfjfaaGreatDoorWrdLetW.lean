/- rubricatorlaw11.WordLetters answers true. -/
import Derived.Test.YtgdpfjipgmfjfaaGreatDoorWrdAw
import Derived.Test.YtgdpfjipgmfjfaaGreatDoorWrdS
import Derived.Test.YtgdpfjipgmfjfaaGreatDoorOpen
import Derived.Test.YtgdpfjipgmfjfaaGreatDoorCatP
import Derived.Test.YtgdpfjipgmfjfaaGreatDoorRefP
namespace Go.Proofs.YtgdpfjipgmfjfaaGreatDoor
open Go.RowKit
set_option linter.unusedVariables false
set_option linter.unusedSimpArgs false

def letB (rs : List Rec) : Bool := (List.range 26).all fun k => isW (firstOf rs (97 + (k : Nat)) [67, 110])
theorem let_cat : letB (recsOf Tryz.f48) = true := by kernel_rfl
theorem letters_of {Φ : Files} (hok : FilesOk Φ) (h : letB Φ.cat = true) (r : Int) (h1 : 97 ≤ r) (h2 : r ≤ 122) : isW (txOf Φ.cat r [67, 110]) = true := by
  rw [txOf_first (listOk_hi hok.cat)]
  have := List.all_eq_true.1 h (r - 97).toNat (List.mem_range.2 (by omega))
  rw [show 97 + (((r - 97).toNat : Nat) : Int) = r by omega] at this
  exact this
set_option maxRecDepth 100000 in
theorem files_letters (r : Int) (h1 : 97 ≤ r) (h2 : r ≤ 122) : isW (txOf files.cat r [67, 110]) = true := letters_of files_ok let_cat r h1 h2
theorem cat_tab {w : World} {m : Nat} {Φ : Files} (ht : TabAt w m Φ) (hok : FilesOk Φ) : CatIs w (.pointer (some ⟨m + 3, 0, none⟩)) (fun r => txOf Φ.cat r [67, 110]) := fun W hW r => category_walk (ht.below hW) hok r
theorem simple_letters {C : Int → Sp.Str} {zs : List Int} (h : ∀ z ∈ zs, isW (C z) = true) (p : Nat) (hp : p < zs.length) : simpleW C zs (p : Nat) = (p == 0) := by
  have hin : ∀ q : Nat, q < zs.length → inW C zs (q : Nat) = true := fun q hq => by
    unfold inW
    rw [decide_eq_true (show (0 : Int) ≤ (q : Nat) by omega), decide_eq_true (show ((q : Nat) : Int) < zs.length by omega), Int.toNat_natCast, List.getD_eq_getElem?_getD, List.getElem?_eq_getElem hq]
    exact h _ (List.getElem_mem _)
  unfold simpleW
  rw [decide_eq_true (show (0 : Int) ≤ (p : Nat) by omega), decide_eq_true (show ((p : Nat) : Int) ≤ zs.length by omega), hin p hp]
  by_cases h0 : p = 0
  · subst h0
    unfold inW
    rw [decide_eq_false (show ¬ (0 : Int) ≤ ((0 : Nat) : Int) - 1 by omega)]
    rfl
  · rw [show ((p : Nat) : Int) - 1 = ((p - 1 : Nat) : Int) by omega, hin (p - 1) (by omega), beq_eq_false_iff_ne.2 h0]
    rfl
theorem mod26 (a : Int) : (IntKind.u64.wrap a).tmod 26 = a % 18446744073709551616 % 26 := by
  have : IntKind.u64.wrap a = a % 18446744073709551616 := by simp [IntKind.wrap, IntKind.bits, IntKind.signed]
  rw [this, Int.tmod_eq_emod_of_nonneg (by omega)]
theorem q26 (z : Int) : ∃ q : Nat, q < 26 ∧ (IntKind.u64.wrap z).tmod 26 = q := by
  have h1 := Int.emod_nonneg (z % 18446744073709551616) (show (26 : Int) ≠ 0 by decide)
  have h2 := Int.emod_lt_of_pos (z % 18446744073709551616) (show (0 : Int) < 26 by decide)
  rw [mod26]
  generalize z % 18446744073709551616 % 26 = y at *
  exact ⟨y.toNat, by omega, by omega⟩
theorem r26 {q : Nat} (h : q < 26) : (97 ≤ 97 + (q : Int) ∧ 97 + (q : Int) ≤ 122) ∧ IntKind.i64.wrap (q : Int) = q ∧ IntKind.i64.wrap (97 + (q : Int)) = 97 + q ∧ wrap64 (97 + (q : Int)) = 97 + q ∧ wrap64 (q : Int) = q := by
  refine ⟨by omega, by rw [IntKind.wrap_i64]; omega, by rw [IntKind.wrap_i64]; omega, by unfold wrap64; omega, by unfold wrap64; omega⟩
theorem intz_snoc (l : List Int) (x : Int) : intz l ++ [.int .i64 x] = intz (l ++ [x]) := by
  unfold intz
  rw [List.map_append]
  rfl
theorem slIntL : SlT Tryz.prog 36 3 1 8 := ⟨Tryz.underlying36, by kernel_rfl, by decide, by decide⟩
set_option maxRecDepth 100000 in
set_option maxHeartbeats 3200000 in
theorem wordLetters_walk {v0 : Value} {zs0 : List Int} (w : World) (hl0 : ListV w v0 zs0) (hE : Env w) (hT : EnvT w) : Calls Tryz.prog 9 #[v0] w fun e w' => e = .returned (.bool true) ∧ Below w.heap.size w w' := by
  have HLD := Lib.hid (load_calls w hE hT)
  have HA := Lib.hid (fun (W : World) (hb : Below w.heap.size w W) => awake11_walk W (hE.below hb) (hT.below hb))
  have HEd := Lib.hid (fun (W : World) (m : Nat) (zs : List Int) (v : Value) (ht : TabAt W m files) (hl : ListAt W v zs) (p : Int) (hp : (Lit.int .i64 p).wf = true) => wedgef_walk ht hl p hp)
  have HCat := Lib.hid (fun (W : World) (m : Nat) (ht : TabAt W m files) => cat_tab ht files_ok)
  have Hw := Lib.hid (fun zs h p hp => words_letters files_words zs h p hp)
  have Hc := Lib.hid files_letters
  generalize files = Φ at *
  clear hE hT
  obtain ⟨A, c, rfl, hac, han, _⟩ := hl0.form
  obtain ⟨k, hk1, hk2⟩ : ∃ k : Nat, (if 40 < (zs0.length : Int) then 40 else (zs0.length : Int)) = k ∧ (k ≤ 40 ∧ k ≤ zs0.length) := by
    by_cases h : 40 < (zs0.length : Int)
    · exact ⟨40, by rw [if_pos h]; rfl, by omega⟩
    · exact ⟨zs0.length, by rw [if_neg h], by omega⟩
  have m2 : min (zs0.length : Int) 40 = k := by rw [← hk1]; split <;> omega
  have m3 : (if (zs0.length : Int) ≤ 40 then (zs0.length : Int) else 40) = k := by rw [← hk1]; split <;> split <;> omega
  have HAL := Lib.hid (hl0.cut hk2.2)
  obtain ⟨zs, hzs, hzl⟩ : ∃ zs : List Int, zs = zs0.take k ∧ zs.length = k := ⟨_, rfl, by rw [List.length_take]; omega⟩
  rw [← hzs] at HAL
  clear hl0 hzs
  subst hzl
  go_enter Tryz.func9, Tryz.ntmps9
  go_wp2_with fail
  refine HLD.out.mono ?_
  rintro e w1 ⟨rfl, ht, hb1⟩
  have HT1 := Lib.hid ht
  have HB1 := Lib.hid hb1
  have HL1 := Lib.hid (HAL.out.below hb1)
  have hk40 := hk2.1
  clear ht hb1 HLD HAL hk1 hk2 m2 m3
  go_wp2_with fail
  go_loopw [4, 16] (fun x i wr => ∃ (j : Nat) (ms : List Int), j ≤ zs.length ∧ i = .int .i64 j ∧ ms.length = j ∧ (∀ z ∈ ms, 97 ≤ z ∧ z ≤ 122) ∧ Hid (IntsAt wr w1.heap.size x ms) ∧ Hid (Below w1.heap.size w1 wr)) (fun _ i _ => zs.length - (intOf i).toNat)
  case atStart => exact ⟨0, [], by omega, rfl, rfl, (fun z h => by cases h), (by show IntsAt _ _ _ _; exact World.ownsRow_nil _ _ _ _), Below.refl _ _⟩
  case round =>
    obtain ⟨j, ms, hj, rfl, hms, hin, HM, HB⟩ := hrel
    by_cases hlt : j < zs.length
    · obtain ⟨ad, rfl, hcell⟩ := (HL1.out.below HB.out).cell j hlt
      generalize zs.getD j 0 = z at *
      obtain ⟨q, hq2, a1⟩ := q26 z
      obtain ⟨h97, a2, a3, a4, a5⟩ := r26 hq2
      have hbt : (ms.length + 1) * 8 ≤ 140737488355328 := by omega
      have hin2 : ∀ x ∈ ms ++ [97 + (q : Int)], 97 ≤ x ∧ x ≤ 122 := by
        intro x hx
        rcases List.mem_append.1 hx with h | h
        · exact hin x h
        · obtain rfl : x = 97 + (q : Int) := by simpa using h
          exact h97
      clear hin
      go_wp2_with (at_builtin; refine wp_append_lit slIntL rfl (.tmp 20) (.tmp 26) rfl w1.heap.size _ _ _ rfl (by exact HM.out) #[.int .i64 (97 + (q : Int))] rfl rfl (by simp [Value.oneCell']) (by exact hbt) (by exact HB.out.size) ?_; intro v5 w5 hown5 hg5; have HB5 := Lib.hid (HB.out.grown hg5 HB.out.size (fun k hk => (own_lt HM.out k hk).1)); have HR5 := Lib.hid hown5; clear hg5 hown5)
      go_roundw
      case rel => exact ⟨j + 1, ms ++ [97 + (q : Int)], by omega, by go_num, by rw [List.length_append, hms]; rfl, hin2, (by
        show IntsAt _ _ _ _
        unfold IntsAt
        rw [← intz_snoc, List.length_append]
        exact HR5.out), HB5⟩
      case measure => simp [intOf]; omega
    · obtain rfl : j = zs.length := by omega
      have hml : ms.length ≤ 40 := by omega
      have HT2 := Lib.hid (HT1.out.below HB.out)
      have HB2 := Lib.hid (HB1.out.trans (HB.out.mono HB1.out.size))
      have HL2 := Lib.hid (ListAt.of_own HM.out)
      have hE' := Lib.hid (fun p hp => Hw.out ms hin p hp)
      have hS' := Lib.hid (fun p hp => simple_letters (C := fun r => txOf Φ.cat r [67, 110]) (zs := ms) (fun z hz => Hc.out z (hin z hz).1 (hin z hz).2) p hp)
      obtain ⟨A2, c2, rfl⟩ := own_slice HM.out
      clear HM HB hin HL1 HT1 HB1 Hw Hc hms
      go_wp2_with fail
      go_loopw [31] (fun i wx => ∃ j : Nat, j ≤ ms.length ∧ i = .int .i64 j ∧ Hid (Below wr.heap.size wr wx)) (fun i _ => ms.length - (intOf i).toNat)
      case atStart => exact ⟨0, by omega, rfl, Below.refl _ _⟩
      case round =>
        obtain ⟨j, hj, rfl, HB⟩ := hrel
        have HT3 := Lib.hid (HT2.out.below HB.out)
        have HL3 := Lib.hid (HL2.out.below HB.out)
        have HB3 := Lib.hid (HB2.out.trans (HB.out.mono HB2.out.size))
        by_cases hlt : j < ms.length
        · have he := hE'.out j hlt
          have hs := hS'.out j hlt
          have cc : ((j == 0) != (j == 0)) = false := by simp
          have e0 : (((j : Nat) : Int) == 0) = (j == 0) := by
            by_cases h : j = 0
            · subst h; rfl
            · rw [beq_eq_false_iff_ne.2 h, beq_eq_false_iff_ne.2 (by omega)]
          have HE := Lib.hid he
          have HS := Lib.hid hs
          clear he hs
          generalize (j == 0) = b at *
          go_wp2_with fail
          refine (HEd.out _ _ _ _ HT3.out HL3.out (j : Nat) (wf_i64 (by omega) (by omega))).mono ?_
          rintro e w4 ⟨rfl, hb4⟩
          rw [HE.out]
          have HT4 := Lib.hid (HT3.out.below hb4)
          have HL4 := Lib.hid (HL3.out.below hb4)
          have HB4 := Lib.hid (HB.out.trans (hb4.mono HB.out.size))
          clear hb4 HT3 HL3 HB3 HB
          go_wp2_with fail
          refine (simple_of (HCat.out _ _ HT4.out) HL4.out (j : Nat) (wf_i64 (by omega) (by omega))).mono ?_
          rintro e w5 ⟨rfl, hb5⟩
          rw [HS.out]
          have HB5 := Lib.hid (HB4.out.trans (hb5.mono HB4.out.size))
          clear hb5 HT4 HL4 HB4
          go_wp2_with fail
          go_roundw
          case rel => exact ⟨j + 1, by omega, by go_num, HB5⟩
          case measure => simp [intOf]; omega
        · obtain rfl : j = ms.length := by omega
          clear HT3 HL3 HB
          go_wp2_with fail
          refine (HA.out _ HB3.out).mono ?_
          rintro e w9 ⟨rfl, hb9⟩
          have HB9 := Lib.hid (HB3.out.trans (hb9.mono HB3.out.size))
          clear hb9
          go_wp2_with fail
          go_ret
          exact ⟨rfl, HB9.out⟩
end Go.Proofs.YtgdpfjipgmfjfaaGreatDoor
