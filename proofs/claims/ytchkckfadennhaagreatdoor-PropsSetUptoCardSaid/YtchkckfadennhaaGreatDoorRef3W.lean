/- rubricatorref03: sorted. -/
import Derived.Test.YtchkckfadennhaaGreatDoorRef3P
import Derived.Test.YtchkckfadennhaaGreatDoorClu
namespace Go.Proofs.YtchkckfadennhaaGreatDoor
open Go.RowKit
set_option linter.unusedVariables false
set_option linter.unusedSimpArgs false

structure SortSt (zs : List Int) (k : Nat) (ys : List Int) : Prop where
  len : ys.length = k
  srt : ys.Pairwise (· ≤ ·)
  mem : ∀ x, x ∈ ys ↔ x ∈ zs.take k
structure DedSt (ys : List Int) (k : Nat) (out : List Int) : Prop where
  srt : out.Pairwise (· < ·)
  mem : ∀ x, x ∈ out ↔ x ∈ ys.take k
  len : out.length ≤ k
theorem DedSt.skip {ys out : List Int} {k : Nat} (h : DedSt ys (k + 1) out) (hk : k + 1 < ys.length) (he : ys[k + 1] = ys[k]) : DedSt ys (k + 2) out := by
  refine ⟨h.srt, fun x => ?_, by have := h.len; omega⟩
  rw [h.mem, List.take_succ_eq_append_getElem hk, List.mem_append, he]
  constructor
  · exact .inl
  · rintro (h | h)
    · exact h
    · obtain rfl : x = ys[k] := by simpa using h
      exact List.mem_take_iff_getElem.2 ⟨k, by omega, rfl⟩
theorem DedSt.more {ys out : List Int} {k : Nat} (h : DedSt ys k out) (hs : ys.Pairwise (· ≤ ·)) (hk : k < ys.length) (he : ∀ h0 : 0 < k, ys[k - 1]'(by omega) ≠ ys[k]) : DedSt ys (k + 1) (out ++ [ys[k]]) := by
  refine ⟨?_, fun x => ?_, by have := h.len; simp; omega⟩
  · rw [List.pairwise_append]
    refine ⟨h.srt, List.pairwise_singleton _ _, fun a ha b hb => ?_⟩
    obtain rfl : b = ys[k] := by simpa using hb
    obtain ⟨i, hi, rfl⟩ := List.mem_take_iff_getElem.1 ((h.mem a).1 ha)
    have h1 := List.pairwise_iff_getElem.1 hs
    have h2 := he (by omega)
    have h3 := h1 (k - 1) k (by omega) hk (by omega)
    by_cases e : i = k - 1
    · subst e
      omega
    · have := h1 i (k - 1) (by omega) (by omega) (by omega)
      omega
  · rw [List.mem_append, h.mem, List.take_succ_eq_append_getElem hk, List.mem_append]
theorem intz_get? (zs : List Int) (j : Nat) (x : Int) (h : zs[j]? = some x) : (intz zs)[j]? = some (.int .i64 x) := by
  unfold intz
  rw [List.getElem?_map, h]
  rfl
theorem intz_set (zs : List Int) (j : Nat) (x : Int) : (intz zs).set j (.int .i64 x) = intz (zs.set j x) := by
  unfold intz
  rw [List.map_set]
theorem shift_get {ys tl : List Int} {i : Nat} {st : Int} (hi : i < ys.length) : (ys.take (i + 1) ++ st :: ys.drop (i + 1) ++ tl)[i]? = some ys[i] := by
  rw [List.append_assoc, List.getElem?_append_left (by rw [List.length_take]; omega), List.getElem?_take, if_pos (by omega), List.getElem?_eq_getElem hi]
theorem shift_set {ys tl : List Int} {i : Nat} {st : Int} (hi : i < ys.length) : (ys.take (i + 1) ++ st :: ys.drop (i + 1) ++ tl).set (i + 1) ys[i] = ys.take i ++ ys[i] :: ys.drop i ++ tl := by
  have hl : (ys.take (i + 1)).length = i + 1 := by rw [List.length_take]; omega
  have h1 : ys.take (i + 1) = ys.take i ++ [ys[i]] := List.take_succ_eq_append_getElem hi
  have h2 : ys.drop i = ys[i] :: ys.drop (i + 1) := List.drop_eq_getElem_cons hi
  rw [List.append_assoc, List.set_append_right _ _ (by omega), hl, Nat.sub_self, List.cons_append, List.set_cons_zero, h2, h1]
  simp only [List.append_assoc, List.cons_append, List.nil_append]
theorem shift_at {ys tl : List Int} {j : Nat} {st : Int} (hj : j ≤ ys.length) : (ys.take j ++ st :: ys.drop j ++ tl)[j]? = some st := by
  have hl : (ys.take j).length = j := by rw [List.length_take]; omega
  rw [List.append_assoc, List.getElem?_append_right (by omega), hl, Nat.sub_self]
  rfl
theorem shift_last {ys tl : List Int} {j : Nat} {st x : Int} (hj : j ≤ ys.length) : (ys.take j ++ st :: ys.drop j ++ tl).set j x = (ys.take j ++ x :: ys.drop j) ++ tl := by
  have hl : (ys.take j).length = j := by rw [List.length_take]; omega
  rw [List.append_assoc, List.set_append_right _ _ (by omega), hl, Nat.sub_self, List.cons_append, List.set_cons_zero, List.append_assoc, List.cons_append]
theorem SortSt.more {zs ys : List Int} {k j : Nat} (h : SortSt zs k ys) (hk : k < zs.length) (hj : j ≤ k) (h1 : ∀ (h0 : 0 < j) (h2 : j - 1 < ys.length), ys[j - 1] ≤ zs[k]) (h2 : ∀ y ∈ ys.drop j, zs[k] < y) : SortSt zs (k + 1) (ys.take j ++ zs[k] :: ys.drop j) := by
  have hl := h.len
  refine ⟨?_, take_sorted h.srt (by omega) (fun h0 => h1 h0 (by omega)) h2, fun x => ?_⟩
  · rw [List.length_append, List.length_cons, List.length_take, List.length_drop]
    omega
  · rw [take_mem, h.mem, List.take_succ_eq_append_getElem hk, List.mem_append]
    constructor
    · rintro (h | h)
      · exact .inr (by simp [h])
      · exact .inl h
    · rintro (h | h)
      · exact .inr h
      · exact .inl (by simpa using h)
set_option maxRecDepth 100000 in
set_option maxHeartbeats 1600000 in
theorem sorted_walk (zs : List Int) (base : Nat) (v : Value) (w : World) (h : IntsAt w base v zs) (h0 : 0 < zs.length) (hl : zs.length ≤ 1000000) (hbw : base ≤ w.heap.size) :
    Calls Tryz.prog 125 #[v] w fun e w' => ∃ v' out, e = .returned v' ∧ IntsAt w' base v' out ∧ out.Pairwise (· < ·) ∧ (∀ x, x ∈ out ↔ x ∈ zs) ∧ out.length ≤ zs.length ∧ Below base w w' := by
  obtain ⟨g, cap, rfl, hbg, hgl, hnc, hcm⟩ := own_form h h0
  unfold maxLen at hcm
  have H := Lib.hid h
  clear h
  go_enter Tryz.func125, Tryz.ntmps125
  go_wp2_with fail
  go_loopw [11] (fun i wr => ∃ (k : Nat) (ys : List Int), k ≤ zs.length ∧ i = .int .i64 k ∧ Hid (SortSt zs k ys) ∧ Hid (wr.ownsRow base 3 1 (.slice (some ⟨g, 0, none⟩) zs.length cap) zs.length (intz (ys ++ zs.drop k))) ∧ Hid (Below base w wr)) (fun i _ => zs.length - (intOf i).toNat)
  case atStart =>
    refine ⟨0, [], by omega, rfl, ⟨rfl, List.Pairwise.nil, fun x => by simp⟩, ?_, ⟨rfl, rfl, rfl, Nat.le_refl _, fun _ _ => rfl⟩⟩
    show World.ownsRow _ _ _ _ _ _ _
    rw [List.drop_zero, List.nil_append]
    exact H.out
  case round =>
    obtain ⟨k, ys, hk, rfl, HS, HO, HB⟩ := hrel
    by_cases hlt : k < zs.length
    · obtain ⟨x, hx⟩ : ∃ x, x = zs[k] := ⟨_, rfl⟩
      have Hx := Lib.hid hx
      have hyl := HS.out.len
      have c0 : wr.cell? ⟨g, k, none⟩ = some (.int .i64 x) := own_cell HO.out k _ (intz_get? _ _ _ (by rw [List.getElem?_append_right (by omega), hyl, Nat.sub_self, List.drop_eq_getElem_cons hlt, hx]; rfl))
      have hst : ys ++ zs.drop k = ys.take k ++ x :: ys.drop k ++ zs.drop (k + 1) := by
        have t1 : ys.take k = ys := List.take_of_length_le (by omega)
        have t2 : ys.drop k = [] := List.drop_of_length_le (by omega)
        have t3 : zs.drop k = x :: zs.drop (k + 1) := by rw [hx]; exact List.drop_eq_getElem_cons hlt
        rw [t1, t2, t3]
        simp
      have HO2 := Lib.hid (show wr.ownsRow base 3 1 (.slice (some ⟨g, 0, none⟩) zs.length cap) zs.length (intz (ys.take k ++ x :: ys.drop k ++ zs.drop (k + 1))) by rw [← hst]; exact HO.out)
      clear hx hst HO
      go_wp2_with fail
      go_loopw [5] (fun a w2 => ∃ (j : Nat) (st : Int), j ≤ k ∧ a = .int .i64 j ∧ Hid (w2.ownsRow base 3 1 (.slice (some ⟨g, 0, none⟩) zs.length cap) zs.length (intz (ys.take j ++ st :: ys.drop j ++ zs.drop (k + 1)))) ∧ Hid (∀ y ∈ ys.drop j, x < y) ∧ Hid (Below base w w2)) (fun a _ => (intOf a).toNat)
      case atStart =>
        refine ⟨k, x, Nat.le_refl _, rfl, HO2, ?_, HB⟩
        intro y hy
        rw [List.drop_of_length_le (by omega)] at hy
        cases hy
      case round =>
        obtain ⟨j, st, hj, rfl, HR, HG, HB2⟩ := hrel
        clear c0 HO2 HB
        have Hfin : ∀ _ : (∀ (h0 : 0 < j) (h2 : j - 1 < ys.length), ys[j - 1] ≤ x), Hid (SortSt zs (k + 1) (ys.take j ++ x :: ys.drop j)) := fun h1 => by
          have hx := Hx.out
          subst hx
          exact HS.out.more hlt hj h1 HG.out
        have f1 : wr.frozen? ⟨g, j, none⟩ = false := own_free HR.out j
        have cT := own_cell HR.out j _ (intz_get? _ _ _ (shift_at (ys := ys) (tl := zs.drop (k + 1)) (j := j) (st := st) (by omega)))
        by_cases hj0 : 0 < j
        · obtain ⟨i, rfl⟩ : ∃ i, j = i + 1 := ⟨j - 1, by omega⟩
          obtain ⟨y, hy⟩ : ∃ y, y = ys[i]'(by omega) := ⟨_, rfl⟩
          have c1 := own_cell HR.out i _ (intz_get? _ _ _ (shift_get (ys := ys) (tl := zs.drop (k + 1)) (i := i) (st := st) (by omega)))
          rw [← hy] at c1
          by_cases hgt : y > x
          · have d1 : decide (y > x) = true := decide_eq_true hgt
            have HR2 := Lib.hid (own_set (j := i + 1) (u := .int .i64 y) HR.out (by omega))
            have HB3 := Lib.hid (HB2.out.setCell (p := ⟨g, i + 1, none⟩) hbg (.int .i64 y))
            have hsh := shift_set (ys := ys) (tl := zs.drop (k + 1)) (i := i) (st := st) (by omega)
            rw [← hy] at hsh
            rw [intz_set, hsh] at HR2
            have HG2 := Lib.hid (show ∀ z ∈ ys.drop i, x < z by
              intro z hz
              rw [List.drop_eq_getElem_cons (by omega)] at hz
              rcases List.mem_cons.1 hz with rfl | hz
              · rw [← hy]
                exact hgt
              · exact HG.out z hz)
            clear hsh HR HG HB2 hgt Hfin hy
            go_wp2_with fail
            go_roundw
            case rel => exact ⟨i, y, by omega, by go_num, HR2, HG2, HB3⟩
            case measure => first | (simp [intOf]; done) | (simp [intOf]; omega)
          · have d1 : decide (y > x) = false := decide_eq_false hgt
            have HS2 := Hfin (fun _ _ => by show ys[i + 1 - 1] ≤ x; simp only [Nat.add_sub_cancel]; rw [← hy]; omega)
            have HR2 := Lib.hid (own_set (j := i + 1) (u := .int .i64 x) HR.out (by omega))
            have HB3 := Lib.hid (HB2.out.setCell (p := ⟨g, i + 1, none⟩) hbg (.int .i64 x))
            rw [intz_set, shift_last (by omega)] at HR2
            clear HR HG HB2 hgt Hfin hy
            go_wp2_with fail
            go_roundw
            case rel => exact ⟨k + 1, _, by omega, by go_num, HS2, HR2, HB3⟩
            case measure => first | (simp [intOf]; done) | (simp [intOf]; omega)
        · obtain rfl : j = 0 := by omega
          have HS2 := Hfin (fun h => absurd h (by decide))
          have HR2 := Lib.hid (own_set (j := 0) (u := .int .i64 x) HR.out (by omega))
          have HB3 := Lib.hid (HB2.out.setCell (p := ⟨g, 0, none⟩) hbg (.int .i64 x))
          rw [intz_set, shift_last (by omega)] at HR2
          clear HR HG HB2 Hfin
          go_wp2_with fail
          go_roundw
          case rel => exact ⟨k + 1, _, by omega, by go_num, HS2, HR2, HB3⟩
          case measure => first | (simp [intOf]; done) | (simp [intOf]; omega)
    · obtain rfl : k = zs.length := by omega
      have hyl := HS.out.len
      have HO2 := Lib.hid (show wr.ownsRow base 3 1 (.slice (some ⟨g, 0, none⟩) zs.length cap) zs.length (intz ys) by have := HO.out; rw [List.drop_length, List.append_nil] at this; exact this)
      have hgl2 : g < wr.heap.size := Nat.lt_of_lt_of_le hgl HB.out.size
      clear HO hlt
      generalize hn : zs.length = n at *
      obtain ⟨Wr, rfl⟩ : ∃ W, W = wr := ⟨_, rfl⟩
      go_wp2_with fail
      go_loopw [6, 47] (fun u i w3 => ∃ (k : Nat) (out : List Int), k ≤ n ∧ i = .int .i64 k ∧ Hid (DedSt ys k out) ∧ Hid (w3.ownsRow Wr.heap.size 3 1 u out.length (intz out)) ∧ Hid (Below Wr.heap.size Wr w3)) (fun _ i _ => n - (intOf i).toNat)
      case atStart => exact ⟨0, [], by omega, rfl, ⟨List.Pairwise.nil, fun x => by simp, Nat.le_refl _⟩, World.ownsRow_nil _ _ _ _, Below.refl _ _⟩
      case round =>
        obtain ⟨k, out, hk2, rfl, HD, HR, HB2⟩ := hrel
        by_cases hlt : k < n
        · obtain ⟨x, hx⟩ : ∃ x, x = ys[k]'(by omega) := ⟨_, rfl⟩
          have c0 : wr.cell? ⟨g, k, none⟩ = some (.int .i64 x) := (HB2.out.cell (p := ⟨_, _, _⟩) hgl2).trans (own_cell HO2.out k _ (intz_get? _ _ _ (by rw [List.getElem?_eq_getElem (by omega), hx])))
          have hol := HD.out.len
          have hbt : (out.length + 1) * 8 ≤ 140737488355328 := by omega
          have hmore : (∀ h0 : 0 < k, ys[k - 1]'(by omega) ≠ ys[k]'(by omega)) → Hid (DedSt ys (k + 1) (out ++ [x])) := fun h => by
            rw [hx]
            exact HD.out.more HS.out.srt (by omega) h
          by_cases hk0 : k = 0
          · subst hk0
            have HD2 := hmore (fun h => absurd h (by decide))
            clear hmore hx
            go_wp2_with (at_builtin; refine wp_append_new slInt rfl (.tmp 63) (.tmp 65) rfl Wr.heap.size u6 _ _ rfl (by exact HR.out) #[.int .i64 x] rfl rfl (by simp [Value.oneCell']) (by exact hbt) (by exact HB2.out.size) ?_; intro v5 w5 hown5 hg5; have HB5 := Lib.hid (HB2.out.grown hg5 HB2.out.size (fun k hk => (own_lt HR.out k hk).1)); have HR5 := Lib.hid hown5; clear hg5 hown5)
            go_roundw
            case rel => exact ⟨1, out ++ [x], by omega, by go_num, HD2, by show World.ownsRow _ _ _ _ _ _ _; rw [List.length_append]; unfold intz; rw [List.map_append]; exact HR5.out, HB5⟩
            case measure => first | (simp [intOf]; done) | (simp [intOf]; omega)
          · obtain ⟨i, rfl⟩ : ∃ i, k = i + 1 := ⟨k - 1, by omega⟩
            obtain ⟨y, hy⟩ : ∃ y, y = ys[i]'(by omega) := ⟨_, rfl⟩
            have c1 : wr.cell? ⟨g, i, none⟩ = some (.int .i64 y) := (HB2.out.cell (p := ⟨_, _, _⟩) hgl2).trans (own_cell HO2.out i _ (intz_get? _ _ _ (by rw [List.getElem?_eq_getElem (by omega), hy])))
            have d0 : (((i : Int) + 1) == 0) = false := by rw [beq_eq_false_iff_ne]; omega
            by_cases hne : y = x
            · have HD2 := Lib.hid (HD.out.skip (by omega) (by rw [← hx, ← hy]; exact hne.symm))
              have d1 : (y != x) = false := by rw [hne]; simp
              clear hmore hx hy hne
              go_wp2_with fail
              go_roundw
              case rel => exact ⟨i + 1 + 1, out, by omega, by go_num, HD2, HR, HB2⟩
              case measure => first | (simp [intOf]; done) | (simp [intOf]; omega)
            · have HD2 := hmore (fun _ => by simp only [Nat.add_sub_cancel]; rw [← hx, ← hy]; exact hne)
              have d1 : (y != x) = true := by rw [bne_iff_ne]; exact hne
              clear hmore hx hy hne
              go_wp2_with (at_builtin; refine wp_append_new slInt rfl (.tmp 63) (.tmp 65) rfl Wr.heap.size u6 _ _ rfl (by exact HR.out) #[.int .i64 x] rfl rfl (by simp [Value.oneCell']) (by exact hbt) (by exact HB2.out.size) ?_; intro v5 w5 hown5 hg5; have HB5 := Lib.hid (HB2.out.grown hg5 HB2.out.size (fun k hk => (own_lt HR.out k hk).1)); have HR5 := Lib.hid hown5; clear hg5 hown5)
              go_roundw
              case rel => exact ⟨i + 1 + 1, out ++ [x], by omega, by go_num, HD2, by show World.ownsRow _ _ _ _ _ _ _; rw [List.length_append]; unfold intz; rw [List.map_append]; exact HR5.out, HB5⟩
              case measure => first | (simp [intOf]; done) | (simp [intOf]; omega)
        · obtain rfl : k = n := by omega
          have Hfin : Hid (IntsAt wr base u6 out ∧ out.Pairwise (· < ·) ∧ (∀ x, x ∈ out ↔ x ∈ zs) ∧ out.length ≤ zs.length ∧ Below base w wr) := by
            refine ⟨own_base HR.out (Nat.le_trans hbw HB.out.size), HD.out.srt, fun x => ?_, by rw [hn]; exact HD.out.len, HB.out.trans (HB2.out.mono (Nat.le_trans hbw HB.out.size))⟩
            rw [HD.out.mem, List.take_of_length_le (by omega), HS.out.mem, List.take_of_length_le (by omega)]
          clear HR HD HB2
          go_wp2_with fail
          go_ret
          exact ⟨_, _, rfl, Hfin.out⟩
end Go.Proofs.YtchkckfadennhaaGreatDoor
