/- rubricatorlaw08.NormKeeps answers true. -/
import Derived.Test.YthoegenipbohmaaGreatDoorItF
import Derived.Test.YthoegenipbohmaaGreatDoorItmP
import Derived.Test.YthoegenipbohmaaGreatDoorRef8M
import Derived.Test.YthoegenipbohmaaGreatDoorRowM
namespace Go.Proofs.YthoegenipbohmaaGreatDoor
open Go.RowKit
set_option linter.unusedVariables false
set_option linter.unusedSimpArgs false
theorem keeps1_fn (w : World) (b : Nat) (x : It) (hb : Blk w b 25 #[.int .i64 x.r, .int .i64 x.s, .int .i64 x.e]) : ItFn w (.func (.func 21) #[] #[.pointer (some ⟨b, 0, none⟩)]) (fun y => x.s == y.s && x.e == y.e) := by
  refine ⟨_, _, rfl, (fun args W => by simp [go_sem]), fun y W hW => ?_⟩
  have hba := alloc_below W (Obj.cells #[.int .i64 y.r, .int .i64 y.s, .int .i64 y.e] 25)
  have hbw := (hb.below hW).below hba
  have c1 := hbw.cell 1
  have c2 := hbw.cell 2
  show Calls Tryz.prog 21 #[.agg #[.int .i64 y.r, .int .i64 y.s, .int .i64 y.e], .pointer (some ⟨b, 0, none⟩)] W fun e W' => e = .returned (.bool (x.s == y.s && x.e == y.e)) ∧ Below W.heap.size W W'
  have HB := Lib.hid hba
  clear hba hbw hW hb
  cases h1 : x.s == y.s
  all_goals
    cases h2 : x.e == y.e
    all_goals
      go_enter Tryz.func21, Tryz.ntmps21
      go_wp2_with fail
      go_ret
      exact ⟨rfl, HB.out⟩
theorem keeps2_fn (w : World) (b : Nat) (x : It) (hb : Blk w b 25 #[.int .i64 x.r, .int .i64 x.s, .int .i64 x.e]) : ItFn w (.func (.func 22) #[] #[.pointer (some ⟨b, 0, none⟩)]) (fun y => y.s == x.s && y.e == x.e) := by
  refine ⟨_, _, rfl, (fun args W => by simp [go_sem]), fun y W hW => ?_⟩
  have hba := alloc_below W (Obj.cells #[.int .i64 y.r, .int .i64 y.s, .int .i64 y.e] 25)
  have hbw := (hb.below hW).below hba
  have c1 := hbw.cell 1
  have c2 := hbw.cell 2
  show Calls Tryz.prog 22 #[.agg #[.int .i64 y.r, .int .i64 y.s, .int .i64 y.e], .pointer (some ⟨b, 0, none⟩)] W fun e W' => e = .returned (.bool (y.s == x.s && y.e == x.e)) ∧ Below W.heap.size W W'
  have HB := Lib.hid hba
  clear hba hbw hW hb
  cases h1 : y.s == x.s
  all_goals
    cases h2 : y.e == x.e
    all_goals
      go_enter Tryz.func22, Tryz.ntmps22
      go_wp2_with fail
      go_ret
      exact ⟨rfl, HB.out⟩
set_option maxRecDepth 100000 in
set_option maxHeartbeats 1600000 in
theorem normKeeps_walk {v0 : Value} {xs0 : List It} (w : World) (hl0 : ItsV w v0 xs0 ∧ ∀ x ∈ xs0, (Lit.int .i64 x.r).wf = true) (hE : Env w) (hT : EnvT w) (hH : Hang w) : Calls Tryz.prog 4 #[v0] w fun e w' => e = .returned (.bool true) ∧ Below w.heap.size w w' := by
  have HLD := Lib.hid (fun (W : World) (hb : Below w.heap.size w W) => load_calls W (hE.below hb) (hT.below hb))
  have HA := Lib.hid (fun (W : World) (hb : Below w.heap.size w W) => awake08_walk W (hE.below hb) (hT.below hb) (hH.below hb))
  have HN := Lib.hid (fun (W : World) (m : Nat) (ht : TabAt W m files) (hb : Below w.heap.size w W) => nmd_files ht (hH.below hb))
  generalize files = Φ at *
  clear hE hT hH
  have hform := hl0.1.1
  obtain ⟨A, c, rfl, hn0, _⟩ := hform
  have hac : xs0.length ≤ c := by
    rcases hl0.1.2 with h | ⟨ad, n, c', h, hnc⟩
    · injection h with h1 h2 h3; omega
    · injection h with h1 h2 h3; omega
  have han : A = none → c = 0 := by
    rintro rfl
    rcases hl0.1.2 with h | ⟨ad, n, c', h, hnc⟩
    · injection h
    · injection h with h1; cases h1
  obtain ⟨k, hk1, hk2⟩ : ∃ k : Nat, (if 60 < (xs0.length : Int) then 60 else (xs0.length : Int)) = k ∧ (k ≤ 60 ∧ k ≤ xs0.length) := by
    by_cases h : 60 < (xs0.length : Int)
    · exact ⟨60, by rw [if_pos h]; rfl, by omega⟩
    · exact ⟨xs0.length, by rw [if_neg h], by omega⟩
  have m2 : min (xs0.length : Int) 60 = k := by rw [← hk1]; split <;> omega
  have m3 : (if (xs0.length : Int) ≤ 60 then (xs0.length : Int) else 60) = k := by rw [← hk1]; split <;> split <;> omega
  have HAL := Lib.hid (hl0.1.cut hk2.2).1
  have Hwf := Lib.hid (show ∀ x ∈ xs0.take k, (Lit.int .i64 x.r).wf = true from fun z hz => hl0.2 z (List.mem_of_mem_take hz))
  obtain ⟨xs, hxs, hxl⟩ : ∃ xs : List It, xs = xs0.take k ∧ xs.length = k := ⟨_, rfl, by rw [List.length_take]; omega⟩
  rw [← hxs] at HAL Hwf
  have hk200 := hk2.1
  have hk0 := hk2.2
  clear hl0 hxs hk2
  subst hxl
  go_enter Tryz.func4, Tryz.ntmps4
  go_wp2_with fail
  refine (HLD.out _ (Below.refl _ _)).mono ?_
  rintro e w1 ⟨rfl, ht, hb1⟩
  have HB := Lib.hid hb1
  have HN1 := Lib.hid (HN.out _ _ ht hb1)
  generalize w.heap.size = mm at ht HN1
  replace HAL := Lib.hid (HAL.out.below hb1)
  clear ht hb1 HLD HN m2 m3 hk1
  have hpl := (partsL_len HN1.out.two xs).1
  have hnl : (nfd Φ xs).length ≤ 6000 := by rw [nfd_len]; omega
  unfold partsL at hpl
  go_wp2_with fail
  refine (items_walk HN1.out.full HN1.out.comb (fun r => (comb_range HN1.out.num r).1) HAL.out Hwf.out (by omega) (by omega)).mono ?_
  rintro e w2 ⟨v2, rfl, hv2, hb2⟩
  have hv2 : ItemsAt w2 w1.heap.size v2 (nfd Φ xs) := hv2
  have H1 := Lib.hid (fun y hy => nfd_mem (Φ := Φ) xs y hy)
  have H2 := Lib.hid (fun x hx => Itm.nfd_has (Φ := Φ) xs x hx)
  generalize nfd Φ xs = ys at *
  obtain ⟨A2, c2, rfl⟩ := own_slice hv2
  have HV := Lib.hid (ItsAt.of_own hv2)
  replace HAL := Lib.hid (HAL.out.below hb2)
  replace HB := Lib.hid (HB.out.trans (hb2.mono HB.out.size))
  clear hv2 hb2 HN1 hpl Hwf
  go_wp2_with fail
  go_loopw [18] (fun i wr => ∃ k : Nat, k ≤ ys.length ∧ i = .int .i64 k ∧ Hid (Below w2.heap.size w2 wr) ∧ Hid (Below w.heap.size w wr)) (fun i _ => ys.length - (intOf i).toNat)
  case atStart => exact ⟨0, Nat.zero_le _, rfl, Below.refl _ _, HB⟩
  case round =>
    clear HB
    obtain ⟨k, hk, rfl, HBW, HB⟩ := hrel
    by_cases hkl : k < ys.length
    · obtain ⟨A', c', e9, _, hz⟩ := HV.out.below HBW.out
      injection e9 with e1 e2 e3
      obtain ⟨ad, hA2, had⟩ := hz (by omega)
      rw [← e1] at hA2
      subst hA2
      obtain ⟨d0, d1, d2⟩ := had k hkl
      obtain ⟨x, hx⟩ : ∃ x, x = ys[k] := ⟨_, rfl⟩
      rw [← hx] at d0 d1 d2
      have q1 : wr.cell? ⟨(ad.add (k * 3)).block, (ad.add (k * 3)).off + 1, none⟩ = some (.int .i64 x.s) := d1
      have q2 : wr.cell? ⟨(ad.add (k * 3)).block, (ad.add (k * 3)).off + 2, none⟩ = some (.int .i64 x.e) := d2
      have hany : xs.any (fun y => x.s == y.s && x.e == y.e) = true := by
        obtain ⟨y, hy, h1, h2, _⟩ := H1.out x (by rw [hx]; exact List.getElem_mem _)
        rw [List.any_eq_true]
        exact ⟨y, hy, by rw [h1, h2]; simp⟩
      have hba := alloc_below wr (Obj.cells #[.int .i64 x.r, .int .i64 x.s, .int .i64 x.e] 25)
      have HFn := Lib.hid (containsit_walk _ _ _ xs _ ((HAL.out.below HBW.out).below hba) (keeps1_fn (wr.alloc (Obj.cells #[.int .i64 x.r, .int .i64 x.s, .int .i64 x.e] 25)) wr.heap.size x (row_new _ _)))
      rw [hany] at HFn
      have HB2 := Lib.hid (HB.out.trans (hba.mono HB.out.size))
      have HBW2 := Lib.hid (HBW.out.trans (hba.mono HBW.out.size))
      clear hba HB HBW hany hx hz had d1 d2 e1 e3
      go_wp2_with fail
      refine HFn.out.mono ?_
      rintro e w3 ⟨rfl, hb3⟩
      replace HB2 := Lib.hid (HB2.out.trans (hb3.mono HB2.out.size))
      replace HBW2 := Lib.hid (HBW2.out.trans (hb3.mono HBW2.out.size))
      clear hb3 HFn
      go_wp2_with fail
      go_roundw
      case rel => exact ⟨k + 1, by omega, by go_num, HBW2, HB2⟩
      case measure => simp [intOf]; omega
    · have hke : k = ys.length := by omega
      subst hke
      clear H1
      go_wp2_with fail
      go_loopw [29] (fun i wr => ∃ k : Nat, k ≤ xs.length ∧ i = .int .i64 k ∧ Hid (Below w2.heap.size w2 wr) ∧ Hid (Below w.heap.size w wr)) (fun i _ => xs.length - (intOf i).toNat)
      case atStart => exact ⟨0, Nat.zero_le _, rfl, HBW, HB⟩
      case round =>
        clear HB HBW
        obtain ⟨k, hk, rfl, HBW, HB⟩ := hrel
        by_cases hkl : k < xs.length
        · obtain ⟨A', c', e9, _, hz⟩ := HAL.out.below HBW.out
          injection e9 with e1 e2 e3
          obtain ⟨ad, hA2, had⟩ := hz (by omega)
          rw [← e1] at hA2
          subst hA2
          obtain ⟨d0, d1, d2⟩ := had k hkl
          obtain ⟨x, hx⟩ : ∃ x, x = xs[k] := ⟨_, rfl⟩
          rw [← hx] at d0 d1 d2
          have q1 : wr.cell? ⟨(ad.add (k * 3)).block, (ad.add (k * 3)).off + 1, none⟩ = some (.int .i64 x.s) := d1
          have q2 : wr.cell? ⟨(ad.add (k * 3)).block, (ad.add (k * 3)).off + 2, none⟩ = some (.int .i64 x.e) := d2
          have hany : ys.any (fun y => y.s == x.s && y.e == x.e) = true := by
            obtain ⟨y, hy, h1, h2⟩ := H2.out x (by rw [hx]; exact List.getElem_mem _)
            rw [List.any_eq_true]
            exact ⟨y, hy, by rw [h1, h2]; simp⟩
          have hba := alloc_below wr (Obj.cells #[.int .i64 x.r, .int .i64 x.s, .int .i64 x.e] 25)
          have HFn := Lib.hid (containsit_walk _ _ _ ys _ ((HV.out.below HBW.out).below hba) (keeps2_fn (wr.alloc (Obj.cells #[.int .i64 x.r, .int .i64 x.s, .int .i64 x.e] 25)) wr.heap.size x (row_new _ _)))
          rw [hany] at HFn
          have HB2 := Lib.hid (HB.out.trans (hba.mono HB.out.size))
          have HBW2 := Lib.hid (HBW.out.trans (hba.mono HBW.out.size))
          clear hba HB HBW hany hx hz had d1 d2 e1 e3
          go_wp2_with fail
          refine HFn.out.mono ?_
          rintro e w3 ⟨rfl, hb3⟩
          replace HB2 := Lib.hid (HB2.out.trans (hb3.mono HB2.out.size))
          replace HBW2 := Lib.hid (HBW2.out.trans (hb3.mono HBW2.out.size))
          clear hb3 HFn
          go_wp2_with fail
          go_roundw
          case rel => exact ⟨k + 1, by omega, by go_num, HBW2, HB2⟩
          case measure => simp [intOf]; omega
        · have hke : k = xs.length := by omega
          subst hke
          clear H2 HAL HV
          go_wp2_with fail
          refine (HA.out _ HB.out).mono ?_
          rintro e w4 ⟨rfl, hb4⟩
          replace HB := Lib.hid (HB.out.trans (hb4.mono HB.out.size))
          clear hb4 HA
          go_wp2_with fail
          go_ret
          exact ⟨rfl, HB.out⟩
end Go.Proofs.YthoegenipbohmaaGreatDoor
