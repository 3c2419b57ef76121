/- slices.Grow of nil, slices.Concat of some slices of ints. -/
import Derived.Test.YthoegenipbohmaaGreatDoorShelf3
import Derived.Test.YthoegenipbohmaaGreatDoorAppM
import Derived.Test.YthoegenipbohmaaGreatDoorOpen
namespace Go.Proofs.YthoegenipbohmaaGreatDoor
open Go.RowKit
set_option linter.unusedVariables false
set_option linter.unusedSimpArgs false

theorem slIntC : SlT Tryz.prog 37 3 1 8 := ⟨Tryz.underlying37, by kernel_rfl, by decide, by decide⟩
theorem int_info : (Tryz.prog.info? 3).map (fun i => (i.zero, i.size, i.bytes)) = some (some (.int .i64 0), 1, 8) := by kernel_rfl
theorem grow_nil (n : Nat) (w : World) (h0 : 0 < n) (hn : n ≤ 100000) : Calls Tryz.prog 64 #[.slice none 0 0, .int .i64 n] w fun e w' => ∃ v c, e = .returned (.slice (some ⟨w.heap.size, 0, none⟩) 0 c) ∧ v = Value.slice (some ⟨w.heap.size, 0, none⟩) 0 c ∧ w'.ownsRow w.heap.size 3 1 v 0 [] ∧ Below w.heap.size w w' := by
  obtain ⟨i0, hi0, hz1⟩ := Option.map_eq_some_iff.1 int_info
  have hz0 : i0.zero = some (.int .i64 0) ∧ i0.size = 1 ∧ i0.bytes = 8 := by
    injection hz1 with e1 e2
    injection e2 with e2 e3
    exact ⟨e1, e2, e3⟩
  have h := Any8.slices_Grow_grow Tryz.laysGrow i0 (.int .i64 0) hi0 hz0.1 (by rw [hz0.2.1]; decide) none 0 0 n [] w (Nat.le_refl _) (by omega) (by rw [hz0.2.2]; omega) (by omega) (by simp) (fun _ => rfl) (fun a h => by cases h)
  refine h.mono ?_
  rintro e w' ⟨rfl, rfl⟩
  have hge := grownCap_ge w (0 + n) 0 3
  have hle := grownCap_le_maxLen w (0 + n) 0 3 (by unfold maxLen; omega)
  have hd : Below w.heap.size w w.drew := ⟨rfl, rfl, rfl, Nat.le_refl _, fun _ _ => rfl⟩
  refine ⟨_, _, rfl, rfl, ⟨rfl, .inr ⟨w.heap.size, _, _, rfl, Nat.le_refl _, row_new w.drew _, Nat.zero_le _, hle, ?_, ?_⟩⟩, hd.trans (alloc_below w.drew _)⟩
  · have hz : (Builtin.zeroCells (Value.int .i64 0).cells (0 + n - 0)).size = n := by simp [Builtin.zeroCells, Value.cells]
    have hz2 : (Builtin.zeroCells (Value.int .i64 0).cells (grownCap w (0 + n) 0 3 - (0 + n))).size = grownCap w (0 + n) 0 3 - (0 + n) := by simp [Builtin.zeroCells, Value.cells]
    rw [Array.size_append, Array.size_append, hz]
    change _ + (Builtin.zeroCells (Value.int .i64 0).cells (grownCap w (0 + n) 0 3 - (0 + n))).size = grownCap w (0 + n) 0 3 * 1
    rw [hz2]
    generalize grownCap w (0 + n) 0 3 = G at *
    show 0 + n + (G - (0 + n)) = G * 1
    omega
  · simp
theorem grow_any (n : Nat) (w : World) (hn : n ≤ 100000) : Calls Tryz.prog 64 #[.slice none 0 0, .int .i64 n] w fun e w' => ∃ v, e = .returned v ∧ w'.ownsRow w.heap.size 3 1 v 0 [] ∧ Below w.heap.size w w' := by
  rcases Nat.eq_zero_or_pos n with rfl | h0
  · go_enter Tryz.func64, Tryz.ntmps64
    go_wp2_with fail
    go_ret
    exact ⟨_, rfl, World.ownsRow_nil _ _ _ _, Below.refl _ _⟩
  · refine (grow_nil n w h0 hn).mono ?_
    rintro e w' ⟨v, c, rfl, hv, hr, hb⟩
    exact ⟨_, rfl, hv ▸ hr, hb⟩
set_option maxRecDepth 100000 in
set_option maxHeartbeats 1600000 in
theorem concat_any {w : World} {g cap : Nat} (LS : List (List Int)) (vs : List Value) (hlen : vs.length = LS.length) (hcap : LS.length ≤ cap) (h : ∀ (i : Nat) l u, LS[i]? = some l → vs[i]? = some u → ListV w u l) (hc : ∀ (i : Nat) u, vs[i]? = some u → w.cell? ⟨g, i, none⟩ = some u) (hsum : LS.flatten.length ≤ 100000) (hn : LS.length ≤ 1000) :
    Calls Tryz.prog 25 #[.slice (some ⟨g, 0, none⟩) LS.length cap] w (CloneSaid LS.flatten w) := by
  have H := Lib.hid h
  have HC := Lib.hid hc
  have hpre : ∀ k, ((LS.take k).flatten).length ≤ LS.flatten.length := fun k => by
    conv => rhs; rw [← List.take_append_drop k LS]
    rw [List.flatten_append, List.length_append]
    omega
  have Hpre := Lib.hid hpre
  clear h hc hpre
  go_enter Tryz.func25, Tryz.ntmps25
  go_wp2_with fail
  go_loopw [3, 11] (fun s i wr => ∃ k : Nat, k ≤ LS.length ∧ i = .int .i64 k ∧ s = .int .i64 (((LS.take k).flatten).length : Nat) ∧ w = wr) (fun _ i _ => LS.length - (intOf i).toNat)
  case atStart => exact ⟨0, by omega, rfl, by rw [List.take_zero]; rfl, rfl⟩
  case round =>
    obtain ⟨k, hk, rfl, rfl, rfl⟩ := hrel
    by_cases hlt : k < LS.length
    · obtain ⟨u, hu⟩ : ∃ u, u = vs[k]'(by omega) := ⟨_, rfl⟩
      obtain ⟨l, hl⟩ : ∃ l, l = LS[k] := ⟨_, rfl⟩
      have hu' : vs[k]? = some u := by rw [hu]; exact List.getElem?_eq_getElem _
      have hl' : LS[k]? = some l := by rw [hl]; exact List.getElem?_eq_getElem _
      have hcell := HC.out k u hu'
      obtain ⟨⟨A, c, rfl, hln, _⟩, _⟩ := H.out k l u hl' hu'
      have hfl : ((LS.take (k + 1)).flatten).length = ((LS.take k).flatten).length + l.length := by rw [List.take_succ_eq_append_getElem hlt, List.flatten_append, List.length_append, hl]; simp
      have hp1 := Hpre.out (k + 1)
      rw [hfl] at hp1
      have Hfl := Lib.hid hfl
      clear hu hl hu' hl' hfl
      generalize ((LS.take k).flatten).length = s at *
      have a1 : IntKind.i64.wrap ((s : Int) + (l.length : Int)) = ((s + l.length : Nat) : Int) := by rw [IntKind.wrap_i64]; omega
      have d1 : decide (((s + l.length : Nat) : Int) < 0) = false := by rw [decide_eq_false_iff_not]; omega
      go_wp2_with fail
      go_roundw
      case rel => exact ⟨k + 1, by omega, by go_num, by rw [Hfl.out]; first | rfl | (congr 1), by first | rfl | trivial⟩
      case measure => simp [intOf]; omega
    · obtain rfl : k = LS.length := by omega
      have e0 : (LS.take LS.length).flatten.length = LS.flatten.length := by rw [List.take_length]
      rw [e0]
      obtain ⟨tot, htot⟩ : ∃ tot, tot = LS.flatten.length := ⟨_, rfl⟩
      have hs' : tot ≤ 100000 := by rw [htot]; exact hsum
      rw [← htot]
      clear e0 Hpre htot
      go_wp2_with fail
      refine (grow_any tot w hs').mono ?_
      rintro e w1 ⟨v, rfl, hr, hb⟩
      have HR := Lib.hid hr
      have HB := Lib.hid hb
      clear hr hb
      go_wp2_with fail
      have hst : Hid (IntsAt w1 w.heap.size v (LS.take 0).flatten) := by
        have e0 : (LS.take 0).flatten = [] := by rw [List.take_zero]; rfl
        show IntsAt _ _ _ _
        rw [e0]
        exact HR.out
      clear HR
      go_loopw [6, 27] (fun x i wr => ∃ k : Nat, k ≤ LS.length ∧ i = .int .i64 k ∧ Hid (IntsAt wr w.heap.size x (LS.take k).flatten) ∧ Hid (Below w.heap.size w wr)) (fun _ i _ => LS.length - (intOf i).toNat)
      case atStart => exact ⟨0, by omega, rfl, hst, HB⟩
      case round =>
        obtain ⟨k, hk, rfl, HX, HBk⟩ := hrel
        by_cases hlt : k < LS.length
        · obtain ⟨u, hu⟩ : ∃ u, u = vs[k]'(by omega) := ⟨_, rfl⟩
          obtain ⟨l, hl⟩ : ∃ l, l = LS[k] := ⟨_, rfl⟩
          have hu' : vs[k]? = some u := by rw [hu]; exact List.getElem?_eq_getElem _
          have hl' : LS[k]? = some l := by rw [hl]; exact List.getElem?_eq_getElem _
          have hcell := cell_later HBk.out (HC.out k u hu')
          have hlv := (H.out k l u hl' hu').below HBk.out
          obtain ⟨⟨A, c, rfl, hln, hz⟩, hform⟩ := hlv
          have hA : A = none → l.length = 0 ∧ c = 0 := by
            rintro rfl
            rcases hform with h | ⟨_, _, _, h, _⟩
            · injection h with h1 h2 h3
              exact ⟨h2, h3⟩
            · cases h
          have hnews : ∀ ad, A = some ad → ∀ j x, (intz l)[j]? = some x → wr.cell? (ad.add j) = some x := by
            rintro ad rfl j x hx
            obtain ⟨ad', e, hz'⟩ := hz (by have := (List.getElem?_eq_some_iff.1 hx).1; unfold intz at this; rw [List.length_map] at this; omega)
            injection e with e
            subst e
            exact hz' j x hx
          have hfl : (LS.take (k + 1)).flatten = (LS.take k).flatten ++ l := by rw [List.take_succ_eq_append_getElem hlt, List.flatten_append, hl]; simp
          have hp1 : ((LS.take k).flatten).length + l.length ≤ 100000 := by
            have : ((LS.take (k + 1)).flatten).length ≤ LS.flatten.length := by
              conv => rhs; rw [← List.take_append_drop (k + 1) LS]
              rw [List.flatten_append, List.length_append]
              omega
            rw [hfl, List.length_append] at this
            omega
          have Hfl := Lib.hid hfl
          have HA := Lib.hid hA
          have Hnews := Lib.hid hnews
          have hone : ∀ u ∈ intz l, u.oneCell' = true := fun u hu => by obtain ⟨x, _, rfl⟩ := List.mem_map.1 hu; rfl
          have hll : (intz l).length = l.length * 1 := by unfold intz; rw [List.length_map, Nat.mul_one]
          have Hone := Lib.hid hone
          have Hll := Lib.hid hll
          clear hu hl hu' hl' hfl hA hnews hz hform hone hll
          generalize (LS.take k).flatten = pre at *
          have hbt : (pre.length + l.length) * 8 ≤ 140737488355328 := by omega
          go_wp2_with (at_builtin; refine wp_append_more wr slIntC rfl (.tmp 31) (.tmp 32) rfl w.heap.size _ _ _ rfl (by exact HX.out) A l.length c (intz l) rfl (by exact HA.out) (by exact Hll.out) (by exact Hnews.out) (by exact Hone.out) (by exact hbt) (by exact HBk.out.size) ?_; intro v5 w5 hown5 hg5; have HB5 := Lib.hid (HBk.out.grown hg5 HBk.out.size (fun k hk => (own_lt HX.out k hk).1)); have HR5 := Lib.hid hown5; clear hg5 hown5)
          go_roundw
          case rel => exact ⟨k + 1, by omega, by go_num, (by
            show IntsAt _ _ _ _
            rw [Hfl.out]
            have h5 := HR5.out
            unfold IntsAt intz
            rw [List.map_append, List.length_append]
            exact h5), HB5⟩
          case measure => simp [intOf]; omega
        · obtain rfl : k = LS.length := by omega
          have hfin : CloneSaid LS.flatten w (.returned u6) wr := by
            have h1 := HX.out
            rw [List.take_length] at h1
            exact ⟨u6, rfl, h1, HBk.out⟩
          go_wp2_with fail
          go_ret
          exact hfin
theorem concat_walk {w : World} {g cap : Nat} (LS : List (List Int)) (vs : List Value) (hlen : vs.length = LS.length) (hcap : LS.length ≤ cap) (h : ∀ (i : Nat) l u, LS[i]? = some l → vs[i]? = some u → ListV w u l) (hc : ∀ (i : Nat) u, vs[i]? = some u → w.cell? ⟨g, i, none⟩ = some u) (hsum : LS.flatten.length ≤ 100000) (h0 : 0 < LS.flatten.length) (hn : LS.length ≤ 1000) :
    Calls Tryz.prog 25 #[.slice (some ⟨g, 0, none⟩) LS.length cap] w (CloneSaid LS.flatten w) :=
  concat_any LS vs hlen hcap h hc hsum hn
end Go.Proofs.YthoegenipbohmaaGreatDoor
