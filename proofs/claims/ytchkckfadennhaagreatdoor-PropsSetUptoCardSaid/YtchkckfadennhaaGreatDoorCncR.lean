/- slices.Grow of nil, slices.Concat of some slices of ranges; ranges.Union. -/
import Derived.Test.YtchkckfadennhaaGreatDoorShelf3
import Derived.Test.YtchkckfadennhaaGreatDoorAppM
import Derived.Test.YtchkckfadennhaaGreatDoorAllW
namespace Go.Proofs.YtchkckfadennhaaGreatDoor
open Go.RowKit
set_option linter.unusedVariables false
set_option linter.unusedSimpArgs false

theorem rg_info : (Tryz.prog.info? 37).map (fun i => (i.zero, i.size, i.bytes)) = some (some (.agg #[.int .i64 0, .int .i64 0]), 2, 16) := by kernel_rfl
/-- Any slice of ranges. -/
def RgV (w : World) (u : Value) (l : List Rg) : Prop := ∃ A c, u = .slice A l.length c ∧ (A = none → l.length = 0 ∧ c = 0) ∧ ∀ ad, A = some ad → ∀ j x, (l.flatMap rgCells)[j]? = some x → w.cell? (ad.add j) = some x
theorem RgV.of {w : World} {base : Nat} {u : Value} {l : List Rg} (h : RgsAt w base u l) : RgV w u l := own_any h
theorem RgV.below {w w' : World} {u : Value} {l : List Rg} (h : RgV w u l) (hb : Below w.heap.size w w') : RgV w' u l := by
  obtain ⟨A, c, h1, h2, h3⟩ := h
  exact ⟨A, c, h1, h2, fun ad had j x hx => cell_later hb (h3 ad had j x hx)⟩
def CatSaid (l : List Rg) (w : World) (e : Ending) (w' : World) : Prop := ∃ v, e = .returned v ∧ RgsAt w' w.heap.size v l ∧ Below w.heap.size w w'
theorem rgrow_nil (n : Nat) (w : World) (h0 : 0 < n) (hn : n ≤ 100000) : Calls Tryz.prog 85 #[.slice none 0 0, .int .i64 n] w fun e w' => ∃ v c, e = .returned (.slice (some ⟨w.heap.size, 0, none⟩) 0 c) ∧ v = Value.slice (some ⟨w.heap.size, 0, none⟩) 0 c ∧ w'.ownsRow w.heap.size 37 2 v 0 [] ∧ Below w.heap.size w w' := by
  obtain ⟨i0, hi0, hz1⟩ := Option.map_eq_some_iff.1 rg_info
  have hz0 : i0.zero = some (.agg #[.int .i64 0, .int .i64 0]) ∧ i0.size = 2 ∧ i0.bytes = 16 := by
    injection hz1 with e1 e2
    injection e2 with e2 e3
    exact ⟨e1, e2, e3⟩
  have h := Any8.slices_Grow_grow Tryz.laysGrow i0 (.agg #[.int .i64 0, .int .i64 0]) hi0 hz0.1 (by rw [hz0.2.1]; decide) none 0 0 n [] w (Nat.le_refl _) (by omega) (by rw [hz0.2.2]; omega) (by omega) (by simp) (fun _ => rfl) (fun a h => by cases h)
  refine h.mono ?_
  rintro e w' ⟨rfl, rfl⟩
  have hge := grownCap_ge w (0 + n) 0 37
  have hle := grownCap_le_maxLen w (0 + n) 0 37 (by unfold maxLen; omega)
  have hd : Below w.heap.size w w.drew := ⟨rfl, rfl, rfl, Nat.le_refl _, fun _ _ => rfl⟩
  refine ⟨_, _, rfl, rfl, ⟨rfl, .inr ⟨w.heap.size, _, _, rfl, Nat.le_refl _, row_new w.drew _, Nat.zero_le _, hle, ?_, ?_⟩⟩, hd.trans (alloc_below w.drew _)⟩
  · have hz : (Builtin.zeroCells (Value.agg #[.int .i64 0, .int .i64 0]).cells (0 + n - 0)).size = n * 2 := by simp [Builtin.zeroCells, Value.cells]
    have hz2 : (Builtin.zeroCells (Value.agg #[.int .i64 0, .int .i64 0]).cells (grownCap w (0 + n) 0 37 - (0 + n))).size = (grownCap w (0 + n) 0 37 - (0 + n)) * 2 := by simp [Builtin.zeroCells, Value.cells]
    rw [Array.size_append, Array.size_append, hz]
    change _ + (Builtin.zeroCells (Value.agg #[.int .i64 0, .int .i64 0]).cells (grownCap w (0 + n) 0 37 - (0 + n))).size = grownCap w (0 + n) 0 37 * 2
    rw [hz2]
    generalize grownCap w (0 + n) 0 37 = G at *
    show 0 + n * 2 + (G - (0 + n)) * 2 = G * 2
    omega
  · simp
theorem rgrow_any (n : Nat) (w : World) (hn : n ≤ 100000) : Calls Tryz.prog 85 #[.slice none 0 0, .int .i64 n] w fun e w' => ∃ v, e = .returned v ∧ w'.ownsRow w.heap.size 37 2 v 0 [] ∧ Below w.heap.size w w' := by
  rcases Nat.eq_zero_or_pos n with rfl | h0
  · go_enter Tryz.func85, Tryz.ntmps85
    go_wp2_with fail
    go_ret
    exact ⟨_, rfl, World.ownsRow_nil _ _ _ _, Below.refl _ _⟩
  · refine (rgrow_nil n w h0 hn).mono ?_
    rintro e w' ⟨v, c, rfl, hv, hr, hb⟩
    exact ⟨_, rfl, hv ▸ hr, hb⟩
set_option maxRecDepth 100000 in
set_option maxHeartbeats 1600000 in
theorem rconcat_any {w : World} {g cap : Nat} (LS : List (List Rg)) (vs : List Value) (hlen : vs.length = LS.length) (hcap : LS.length ≤ cap) (h : ∀ (i : Nat) l u, LS[i]? = some l → vs[i]? = some u → RgV w u l) (hc : ∀ (i : Nat) u, vs[i]? = some u → w.cell? ⟨g, i, none⟩ = some u) (hsum : LS.flatten.length ≤ 100000) (hn : LS.length ≤ 1000) :
    Calls Tryz.prog 59 #[.slice (some ⟨g, 0, none⟩) LS.length cap] w (CatSaid LS.flatten w) := by
  have H := Lib.hid h
  have HC := Lib.hid hc
  have hpre : ∀ k, ((LS.take k).flatten).length ≤ LS.flatten.length := fun k => by
    conv => rhs; rw [← List.take_append_drop k LS]
    rw [List.flatten_append, List.length_append]
    omega
  have Hpre := Lib.hid hpre
  clear h hc hpre
  go_enter Tryz.func59, Tryz.ntmps59
  go_wp2_with fail
  go_loopw [3, 11] (fun s i wr => ∃ k : Nat, k ≤ LS.length ∧ i = .int .i64 k ∧ s = .int .i64 (((LS.take k).flatten).length : Nat) ∧ w = wr) (fun _ i _ => LS.length - (intOf i).toNat)
  case atStart => exact ⟨0, by omega, rfl, by rw [List.take_zero]; rfl, rfl⟩
  case round =>
    obtain ⟨k, hk, rfl, rfl, rfl⟩ := hrel
    by_cases hlt : k < LS.length
    · obtain ⟨u, hu⟩ : ∃ u, u = vs[k]'(by omega) := ⟨_, rfl⟩
      obtain ⟨l, hl⟩ : ∃ l, l = LS[k] := ⟨_, rfl⟩
      have hu' : vs[k]? = some u := by rw [hu]; exact List.getElem?_eq_getElem _
      have hl' : LS[k]? = some l := by rw [hl]; exact List.getElem?_eq_getElem _
      have hcell := HC.out k u hu'
      obtain ⟨A, c, rfl, _, _⟩ := H.out k l u hl' hu'
      have hfl : ((LS.take (k + 1)).flatten).length = ((LS.take k).flatten).length + l.length := by rw [List.take_succ_eq_append_getElem hlt, List.flatten_append, List.length_append, hl]; simp
      have hp1 := Hpre.out (k + 1)
      rw [hfl] at hp1
      have Hfl := Lib.hid hfl
      clear hu hl hu' hl' hfl
      generalize ((LS.take k).flatten).length = s at *
      have a1 : IntKind.i64.wrap ((s : Int) + (l.length : Int)) = ((s + l.length : Nat) : Int) := by rw [IntKind.wrap_i64]; omega
      have d1 : decide (((s + l.length : Nat) : Int) < 0) = false := by rw [decide_eq_false_iff_not]; omega
      go_wp2_with fail
      go_roundw
      case rel => exact ⟨k + 1, by omega, by go_num, by rw [Hfl.out]; first | rfl | (congr 1), by first | rfl | trivial⟩
      case measure => simp [intOf]; omega
    · obtain rfl : k = LS.length := by omega
      have e0 : (LS.take LS.length).flatten.length = LS.flatten.length := by rw [List.take_length]
      rw [e0]
      obtain ⟨tot, htot⟩ : ∃ tot, tot = LS.flatten.length := ⟨_, rfl⟩
      have hs' : tot ≤ 100000 := by rw [htot]; exact hsum
      rw [← htot]
      clear e0 Hpre htot
      go_wp2_with fail
      refine (rgrow_any tot w hs').mono ?_
      rintro e w1 ⟨v, rfl, hr, hb⟩
      have HR := Lib.hid hr
      have HB := Lib.hid hb
      clear hr hb
      go_wp2_with fail
      have hst : Hid (RgsAt w1 w.heap.size v (LS.take 0).flatten) := by
        have e0 : (LS.take 0).flatten = [] := by rw [List.take_zero]; rfl
        show RgsAt _ _ _ _
        rw [e0]
        exact HR.out
      clear HR
      go_loopw [6, 27] (fun x i wr => ∃ k : Nat, k ≤ LS.length ∧ i = .int .i64 k ∧ Hid (RgsAt wr w.heap.size x (LS.take k).flatten) ∧ Hid (Below w.heap.size w wr)) (fun _ i _ => LS.length - (intOf i).toNat)
      case atStart => exact ⟨0, by omega, rfl, hst, HB⟩
      case round =>
        obtain ⟨k, hk, rfl, HX, HBk⟩ := hrel
        by_cases hlt : k < LS.length
        · obtain ⟨u, hu⟩ : ∃ u, u = vs[k]'(by omega) := ⟨_, rfl⟩
          obtain ⟨l, hl⟩ : ∃ l, l = LS[k] := ⟨_, rfl⟩
          have hu' : vs[k]? = some u := by rw [hu]; exact List.getElem?_eq_getElem _
          have hl' : LS[k]? = some l := by rw [hl]; exact List.getElem?_eq_getElem _
          have hcell := cell_later HBk.out (HC.out k u hu')
          have hlv := (H.out k l u hl' hu').below HBk.out
          obtain ⟨A, c, rfl, hA, hnews⟩ := hlv
          have hfl : (LS.take (k + 1)).flatten = (LS.take k).flatten ++ l := by rw [List.take_succ_eq_append_getElem hlt, List.flatten_append, hl]; simp
          have hp1 : ((LS.take k).flatten).length + l.length ≤ 100000 := by
            have : ((LS.take (k + 1)).flatten).length ≤ LS.flatten.length := by
              conv => rhs; rw [← List.take_append_drop (k + 1) LS]
              rw [List.flatten_append, List.length_append]
              omega
            rw [hfl, List.length_append] at this
            omega
          have Hfl := Lib.hid hfl
          have HA := Lib.hid hA
          have Hnews := Lib.hid hnews
          have hone := rgsA_one l
          have hll := rgsA_len l
          have Hone := Lib.hid hone
          have Hll := Lib.hid hll
          clear hu hl hu' hl' hfl hA hnews hone hll
          generalize (LS.take k).flatten = pre at *
          have hbt : (pre.length + l.length) * 16 ≤ 140737488355328 := by omega
          go_wp2_with (at_builtin; refine wp_append_more wr slRange rfl (.tmp 31) (.tmp 32) rfl w.heap.size _ _ _ rfl (by exact HX.out) A l.length c (l.flatMap rgCells) rfl (by exact HA.out) (by exact Hll.out) (by exact Hnews.out) (by exact Hone.out) (by exact hbt) (by exact HBk.out.size) ?_; intro v5 w5 hown5 hg5; have HB5 := Lib.hid (HBk.out.grown hg5 HBk.out.size (fun k hk => (own_lt HX.out k hk).1)); have HR5 := Lib.hid hown5; clear hg5 hown5)
          go_roundw
          case rel => exact ⟨k + 1, by omega, by go_num, (by
            show RgsAt _ _ _ _
            rw [Hfl.out]
            have h5 := HR5.out
            exact rgs_append h5), HB5⟩
          case measure => simp [intOf]; omega
        · obtain rfl : k = LS.length := by omega
          have hfin : CatSaid LS.flatten w (.returned u6) wr := by
            have h1 := HX.out
            rw [List.take_length] at h1
            exact ⟨u6, rfl, h1, HBk.out⟩
          go_wp2_with fail
          go_ret
          exact hfin
theorem union_walk {w : World} (ra rb : List Rg) (ba bb : Nat) (va vb : Value) (ha : RgsAt w ba va ra) (hb : RgsAt w bb vb rb) (hl1 : ra.length ≤ 40000) (hl2 : rb.length ≤ 40000) :
    Calls Tryz.prog 32 #[va, vb] w (SetIs (fun r => (0 ≤ r ∧ r ≤ 1114111) ∧ (inSet ra r ∨ inSet rb r)) w) := by
  obtain ⟨A1, c1, rfl⟩ := own_slice ha
  obtain ⟨A2, c2, rfl⟩ := own_slice hb
  have hb0 := alloc_below w (.cells #[.slice A1 ra.length c1, .slice A2 rb.length c2] 26)
  have hrow := row_new w (.cells #[.slice A1 ra.length c1, .slice A2 rb.length c2] 26)
  have HC := Lib.hid (rconcat_any (w := w.alloc (.cells #[.slice A1 ra.length c1, .slice A2 rb.length c2] 26)) (g := w.heap.size) (cap := 2) [ra, rb] [.slice A1 ra.length c1, .slice A2 rb.length c2] rfl (by simp) (fun i l u hl hu => by
      cases i with
      | zero => simp at hl hu; subst hl hu; exact (RgV.of ha).below hb0
      | succ i => cases i with
        | zero => simp at hl hu; subst hl hu; exact (RgV.of hb).below hb0
        | succ i => simp at hl) (fun i u hu => by
      rw [(cells_of_row hrow).1 i]
      simpa using hu) (by simp; omega) (by simp))
  rw [show [ra, rb].flatten = ra ++ rb by simp] at HC
  have HB := Lib.hid hb0
  clear ha hb hb0 hrow
  go_enter Tryz.func32, Tryz.ntmps32
  go_wp2_with fail
  refine HC.out.mono ?_
  rintro e w1 ⟨v1, rfl, h1, hb1⟩
  have hB1 := HB.out.trans (hb1.mono HB.out.size)
  have HB1 := Lib.hid hB1
  have HO := Lib.hid (own_base h1 HB.out.size)
  clear h1 hb1 hB1 HC
  go_wp2_with fail
  refine (make_walk (ra ++ rb) w.heap.size v1 w1 HO.out (by rw [List.length_append]; omega)).mono ?_
  rintro e w5 ⟨v5, s5, rfl, hperm, hsort, hr5, hb5⟩
  have hfin : SetIs (fun r => (0 ≤ r ∧ r ≤ 1114111) ∧ (inSet ra r ∨ inSet rb r)) w (.returned v5) w5 := by
    obtain ⟨k1, k2⟩ := make_set hperm hsort
    exact ⟨v5, _, rfl, own_base hr5 HB1.out.size, k1, fun r => by rw [k2, inSet_append], HB1.out.trans (hb5.mono HB1.out.size)⟩
  clear hperm hsort hr5 hb5
  go_wp2_with fail
  go_ret
  exact hfin
end Go.Proofs.YtchkckfadennhaaGreatDoor
