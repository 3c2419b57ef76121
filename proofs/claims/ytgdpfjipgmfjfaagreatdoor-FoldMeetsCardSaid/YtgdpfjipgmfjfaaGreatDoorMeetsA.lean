/- rubricatorref03.Has, rubricatorplain.Wide; rubricatorlaw09.FoldMeets answers true. -/
import Derived.Test.YtgdpfjipgmfjfaaGreatDoorMeetsP
import Derived.Test.YtgdpfjipgmfjfaaGreatDoorAwk9W
import Derived.Test.YtgdpfjipgmfjfaaGreatDoorDagG
import Derived.Deep.DeepCutAuto
namespace Go.Proofs.YtgdpfjipgmfjfaaGreatDoor
open Go.RowKit
set_option linter.unusedVariables false
set_option linter.unusedSimpArgs false

set_option maxRecDepth 100000 in
theorem has3_walk (w : World) (v : Value) (rs : List Rg) (r : Int) (hl : RListAt w v rs) : Calls Tryz.prog 17 #[v, .int .i64 r] w fun e w' => e = .returned (.bool (hasB rs r)) ∧ Below w.heap.size w w' := by
  obtain ⟨A, c, rfl, hn, hz⟩ := hl
  have HZ := Lib.hid hz
  clear hz
  go_enter Tryz.func17, Tryz.ntmps17
  go_wp2_with fail
  go_loopw [9] (fun i wr => ∃ k : Nat, k ≤ rs.length ∧ i = .int .i64 k ∧ Hid (hasB rs r = hasB (rs.drop k) r) ∧ Hid (Below w.heap.size w wr)) (fun i _ => rs.length - (intOf i).toNat)
  case atStart => exact ⟨0, by omega, rfl, by show hasB rs r = hasB (rs.drop 0) r; rw [List.drop_zero], Below.refl _ _⟩
  case round =>
    obtain ⟨k, hk, rfl, HI, HB⟩ := hrel
    by_cases hlt : k < rs.length
    · obtain ⟨ad, rfl, had⟩ := HZ.out (by omega)
      obtain ⟨e0, e1⟩ := had k hlt
      have c0 := cell_later HB.out e0
      have c1 := cell_later HB.out e1
      have hd : rs.drop k = rs[k] :: rs.drop (k + 1) := List.drop_eq_getElem_cons hlt
      have HI2 := Lib.hid (show hasB rs r = (((decide (0 ≤ r) && decide (r ≤ 1114111)) && inRg r rs[k]) || hasB (rs.drop (k + 1)) r) by rw [HI.out, hd]; unfold hasB; rw [List.any_cons, Bool.and_or_distrib_left])
      obtain ⟨x, hx⟩ : ∃ x, x = rs[k] := ⟨_, rfl⟩
      rw [← hx] at c0 c1 HI2
      have c2 : wr.cell? ⟨(ad.add (k * 2)).block, (ad.add (k * 2)).off + 1, none⟩ = some (.int .i64 x.hi) := c1
      have hb2 := alloc_below wr (Obj.cells #[Value.int IntKind.i64 x.lo, Value.int IntKind.i64 x.hi] 28)
      have HB2 := Lib.hid (HB.out.trans (hb2.mono HB.out.size))
      clear hd HI e0 e1 had hx c1 hb2
      by_cases h1 : r ≥ 0
      · by_cases h2 : r ≤ 1114111
        · by_cases h3 : r ≥ x.lo
          · by_cases h4 : r ≤ x.hi
            · have Hfin := Lib.hid (show hasB rs r = true by rw [HI2.out]; unfold inRg; rw [decide_eq_true (show x.lo ≤ r from h3), decide_eq_true h4, decide_eq_true (show 0 ≤ r from h1), decide_eq_true h2]; rfl)
              have d1 := decide_eq_true h1
              have d2 := decide_eq_true h2
              have d3 := decide_eq_true h3
              have d4 := decide_eq_true h4
              clear h1 h2 h3 h4 HI2 HB
              go_wp2_with fail
              go_ret
              refine ⟨?_, HB2.out⟩
              rw [Hfin.out]
              rfl
            · have Hfin := Lib.hid (show hasB rs r = hasB (rs.drop (k + 1)) r by rw [HI2.out]; unfold inRg; rw [decide_eq_false h4]; simp)
              have d1 := decide_eq_true h1
              have d2 := decide_eq_true h2
              have d3 := decide_eq_true h3
              have d4 := decide_eq_false h4
              clear h1 h2 h3 h4 HI2 HB
              go_wp2_with fail
              go_roundw
              case rel => exact ⟨k + 1, by omega, by go_num, Hfin, HB2⟩
              case measure => simp [intOf]; omega
          · have Hfin := Lib.hid (show hasB rs r = hasB (rs.drop (k + 1)) r by rw [HI2.out]; unfold inRg; rw [decide_eq_false (show ¬ x.lo ≤ r from h3)]; simp)
            have d1 := decide_eq_true h1
            have d2 := decide_eq_true h2
            have d3 := decide_eq_false h3
            clear h1 h2 h3 HI2 HB
            go_wp2_with fail
            go_roundw
            case rel => exact ⟨k + 1, by omega, by go_num, Hfin, HB2⟩
            case measure => simp [intOf]; omega
        · have Hfin := Lib.hid (show hasB rs r = hasB (rs.drop (k + 1)) r by rw [HI2.out, decide_eq_false h2]; simp)
          have d1 := decide_eq_true h1
          have d2 := decide_eq_false h2
          clear h1 h2 HI2 HB
          go_wp2_with fail
          go_roundw
          case rel => exact ⟨k + 1, by omega, by go_num, Hfin, HB2⟩
          case measure => simp [intOf]; omega
      · have Hfin := Lib.hid (show hasB rs r = hasB (rs.drop (k + 1)) r by rw [HI2.out, decide_eq_false (show ¬ 0 ≤ r from h1)]; simp)
        have d1 := decide_eq_false h1
        clear h1 HI2 HB
        go_wp2_with fail
        go_roundw
        case rel => exact ⟨k + 1, by omega, by go_num, Hfin, HB2⟩
        case measure => simp [intOf]; omega
    · have hkl : k = rs.length := by omega
      have Hfin := Lib.hid (show hasB rs r = false by rw [HI.out, hkl, List.drop_length]; unfold hasB; simp)
      subst hkl
      clear HI
      go_wp2_with fail
      go_ret
      refine ⟨?_, HB.out⟩
      rw [Hfin.out]
      rfl
/- region of Wide -/
abbrev dsWD : List (Option Tmp) := [some 19, some 20, some 21, some 22, some 23, some 24, some 8, some 9]
abbrev needsWD : List (Nat × Nat) := [(1, 0), (2, 1), (4, 3), (5, 4), (6, 2), (7, 5)]
abbrev opsWD : List Op := [.fieldAddr 28 (.tmp 7) 0, .load 3 (.tmp 19), .call { callee := .builtin .max, args := #[.tmp 20, (.const (.int .i64 0))], argTypes := #[3, 3] }, .fieldAddr 28 (.tmp 7) 1, .load 3 (.tmp 22), .call { callee := .builtin .min, args := #[.tmp 23, (.const (.int .i64 1114111))], argTypes := #[3, 3] }, .assign (.tmp 21), .assign (.tmp 24)]
abbrev gsWD : List (Option (Nat × Bool)) := [none, none, none, none, none, none, none, none]
def relWD (b : Nat) (lo hi : Int) : Nat → Value → World → Prop := fun kx vx W => match kx with
  | 0 => vx = .pointer (some ⟨b, 0, none⟩)
  | 1 => vx = .int .i64 lo
  | 2 => vx = .int .i64 lo
  | 3 => vx = .pointer (some ⟨b, 1, none⟩)
  | 4 => vx = .int .i64 hi
  | 5 => vx = .int .i64 hi
  | 6 => vx = .int .i64 lo
  | 7 => vx = .int .i64 hi
  | _ => True
set_option maxHeartbeats 1600000 in
theorem regionWD (a : Act) (ops : Array Oper) (rid : Nat) (Q : Exit → Act → World → Prop) (w : World) (b : Nat) (lo hi : Int) (hops : ops.toList.map (·.op) = opsWD) (hgs : ops.toList.map (·.guard) = gsWD) (hok : dagOkG ops dsWD = true) (hnd : needsOk2 ops needsWD = true) (hsz : 25 ≤ a.tmps.size)
    (h7 : a.tmps.getD 7 undef = .pointer (some ⟨b, 0, none⟩))
    (c0 : w.cell? ⟨b, 0, none⟩ = some (.int .i64 lo)) (c1 : w.cell? ⟨b, 1, none⟩ = some (.int .i64 hi)) (x1 : max lo 0 = lo) (x2 : (if lo < 0 then 0 else lo) = lo) (x3 : (if 0 ≤ lo then lo else 0) = lo) (x4 : (if lo ≤ 0 then 0 else lo) = lo) (y1 : min hi 1114111 = hi) (y2 : (if 1114111 < hi then 1114111 else hi) = hi) (y3 : (if hi ≤ 1114111 then hi else 1114111) = hi)
    (hend : ∀ vs W, (fun W => Below w.heap.size w W) W → (∀ j, j < 8 → relWD b lo hi j (vs j) W) → Q .normal { a with tmps := frS (fun j => decide (j < 8)) vs 0 dsWD a.tmps } W) :
    (Code.region rid ops true).wp Tryz.prog Q a w := by
  have hlen : ops.size = 8 := by have := congrArg List.length hops; simpa using this
  have hop : ∀ (i : Nat) (o : Oper), ops[i]? = some o → ∀ x, opsWD[i]? = some x → o.op = x := by
    intro i o ho x hx
    rw [← hops, List.getElem?_map, Array.getElem?_toList, ho] at hx
    simpa using hx
  have hgu : ∀ (i : Nat) (o : Oper), ops[i]? = some o → ∀ x, gsWD[i]? = some x → o.guard = x := by
    intro i o ho x hx
    rw [← hgs, List.getElem?_map, Array.getElem?_toList, ho] at hx
    simpa using hx
  rw [← hlen] at hend
  refine wp_region_rel (by kernel_rfl) dsWD hok (fun t ht => Nat.lt_of_lt_of_le (of_decide_eq_true (List.all_eq_true.1 (show dsWD.all (fun d => match d with | some t => decide (t < 25) | none => true) = true from rfl) _ ht)) hsz) (relWD b lo hi) (fun W => Below w.heap.size w W) ?_ ?_ ?_ hend
  · intro i v W W' h hb
    unfold relWD at h ⊢
    split at h
    · exact h
    · exact h
    · exact h
    · exact h
    · exact h
    · exact h
    · exact h
    · exact h
    · exact h
  · exact ⟨rfl, rfl, rfl, Nat.le_refl _, fun _ _ => rfl⟩
  intro kx o ho ρ W hb hρ hold hold2 hcon hfun _
  have hkx : kx < 8 := by rw [← hlen]; exact (Array.getElem?_eq_some_iff.1 ho).1
  have e7 : ρ (.tmp 7) = .pointer (some ⟨b, 0, none⟩) := (hold 7 (by decide)).trans h7
  match kx, hkx with
  | 0, _ =>
    have hg := hgu 0 o ho _ rfl
    have ho' := hop 0 o ho _ rfl
    simp only [hg]
    exact .inl ⟨_, rfl, .inl (by unfold execOp; rw [ho']; go_simp)⟩
  | 1, _ =>
    have hg := hgu 1 o ho _ rfl
    have ho' := hop 1 o ho _ rfl
    simp only [hg]
    have q19 : ρ (.tmp 19) = .pointer (some ⟨b, 0, none⟩) := hρ 0 (needs2_get hnd 1 0 (by decide)) 19 rfl
    have k0 := cell_later hb c0
    exact .inl ⟨_, rfl, .inl (by unfold execOp; rw [ho']; go_simp)⟩
  | 2, _ =>
    have hg := hgu 2 o ho _ rfl
    have ho' := hop 2 o ho _ rfl
    simp only [hg]
    have q20 : ρ (.tmp 20) = .int .i64 lo := hρ 1 (needs2_get hnd 2 1 (by decide)) 20 rfl
    exact .inl ⟨_, rfl, .inl (by unfold execOp; rw [ho']; go_simp)⟩
  | 3, _ =>
    have hg := hgu 3 o ho _ rfl
    have ho' := hop 3 o ho _ rfl
    simp only [hg]
    exact .inl ⟨_, rfl, .inl (by unfold execOp; rw [ho']; go_simp)⟩
  | 4, _ =>
    have hg := hgu 4 o ho _ rfl
    have ho' := hop 4 o ho _ rfl
    simp only [hg]
    have q22 : ρ (.tmp 22) = .pointer (some ⟨b, 1, none⟩) := hρ 3 (needs2_get hnd 4 3 (by decide)) 22 rfl
    have k0 := cell_later hb c1
    exact .inl ⟨_, rfl, .inl (by unfold execOp; rw [ho']; go_simp)⟩
  | 5, _ =>
    have hg := hgu 5 o ho _ rfl
    have ho' := hop 5 o ho _ rfl
    simp only [hg]
    have q23 : ρ (.tmp 23) = .int .i64 hi := hρ 4 (needs2_get hnd 5 4 (by decide)) 23 rfl
    exact .inl ⟨_, rfl, .inl (by unfold execOp; rw [ho']; go_simp)⟩
  | 6, _ =>
    have hg := hgu 6 o ho _ rfl
    have ho' := hop 6 o ho _ rfl
    simp only [hg]
    have q21 : ρ (.tmp 21) = .int .i64 lo := hρ 2 (needs2_get hnd 6 2 (by decide)) 21 rfl
    exact .inl ⟨_, rfl, .inl (by unfold execOp; rw [ho']; go_simp)⟩
  | 7, _ =>
    have hg := hgu 7 o ho _ rfl
    have ho' := hop 7 o ho _ rfl
    simp only [hg]
    have q24 : ρ (.tmp 24) = .int .i64 hi := hρ 5 (needs2_get hnd 7 5 (by decide)) 24 rfl
    exact .inl ⟨_, rfl, .inl (by unfold execOp; rw [ho']; go_simp)⟩
/- end of the region of Wide -/
set_option maxRecDepth 100000 in
theorem wide_walk (w : World) (v : Value) (rs : List Rg) (hl : RListAt w v rs) (hs : sumW rs ≤ 20) (hin : ∀ x ∈ rs, RgIn x) : Calls Tryz.prog 18 #[v, .int .i64 20] w fun e w' => e = .returned (.bool false) ∧ Below w.heap.size w w' := by
  have hle : ∀ x ∈ rs, x.lo ≤ x.hi := fun x hx => (hin x hx).2.1
  have hge := sumW_ge rs hle
  obtain ⟨A, c, rfl, hn, hz⟩ := hl
  have HZ := Lib.hid hz
  have HI := Lib.hid hin
  have HT := Lib.hid (sumW_take hle)
  have d0 : decide ((rs.length : Int) > 40) = false := by rw [decide_eq_false_iff_not]; omega
  clear hz hin hle
  go_enter Tryz.func18, Tryz.ntmps18
  go_wp2_with fail
  go_loopw [5, 15] (fun n i wr => ∃ k : Nat, k ≤ rs.length ∧ i = .int .i64 k ∧ n = .int .i64 (sumW (rs.take k)) ∧ Hid (Below w.heap.size w wr)) (fun _ i _ => rs.length - (intOf i).toNat)
  case atStart => exact ⟨0, by omega, rfl, rfl, Below.refl _ _⟩
  case round =>
    obtain ⟨k, hk, rfl, rfl, HB⟩ := hrel
    by_cases hlt : k < rs.length
    · obtain ⟨ad, rfl, had⟩ := HZ.out (by omega)
      obtain ⟨e0, e1⟩ := had k hlt
      have c0 := cell_later HB.out e0
      have c1 := cell_later HB.out e1
      have hx0 := HI.out rs[k] (List.getElem_mem _)
      have hsn : sumW (rs.take (k + 1)) = sumW (rs.take k) + (rs[k].hi - rs[k].lo + 1) := by rw [List.take_succ_eq_append_getElem hlt, sumW_snoc]
      obtain ⟨t1, t2⟩ := HT.out (k + 1)
      obtain ⟨t3, t4⟩ := HT.out k
      rw [hsn] at t1 t2
      have HS := Lib.hid hsn
      obtain ⟨x, hx⟩ : ∃ x, x = rs[k] := ⟨_, rfl⟩
      rw [← hx] at c0 c1 HS hx0 t1 t2
      obtain ⟨x1, x2, x3⟩ := hx0
      have c2 : wr.cell? ⟨(ad.add (k * 2)).block, (ad.add (k * 2)).off + 1, none⟩ = some (.int .i64 x.hi) := c1
      have hb2 := alloc_below wr (Obj.cells #[Value.int IntKind.i64 x.lo, Value.int IntKind.i64 x.hi] 28)
      have HB2 := Lib.hid (HB.out.trans (hb2.mono HB.out.size))
      generalize sumW (rs.take k) = s at *
      have m1 : max x.lo 0 = x.lo := by omega
      have m2 : min x.hi 1114111 = x.hi := by omega
      have hrx := (cells_of_row (row_new wr (Obj.cells #[Value.int IntKind.i64 x.lo, Value.int IntKind.i64 x.hi] 28))).1
      have Hr0 := Lib.hid (hrx 0)
      have Hr1 := Lib.hid (hrx 1)
      have d3 : decide (x.lo ≤ x.hi) = true := decide_eq_true x2
      have d4 : decide (s + (x.hi - x.lo + 1) > 20) = false := by rw [decide_eq_false_iff_not]; omega
      have w1 : IntKind.i64.wrap (x.hi - x.lo) = x.hi - x.lo := by rw [IntKind.wrap_i64]; omega
      have w2 : IntKind.i64.wrap (x.hi - x.lo + 1) = x.hi - x.lo + 1 := by rw [IntKind.wrap_i64]; omega
      have w3 : IntKind.i64.wrap (s + (x.hi - x.lo + 1)) = s + (x.hi - x.lo + 1) := by rw [IntKind.wrap_i64]; omega
      have v1 : wrap64 (x.hi - x.lo) = x.hi - x.lo := by unfold wrap64; omega
      have v2 : wrap64 (x.hi - x.lo + 1) = x.hi - x.lo + 1 := by unfold wrap64; omega
      have v3 : wrap64 (s + (x.hi - x.lo + 1)) = s + (x.hi - x.lo + 1) := by unfold wrap64; omega
      clear hsn e0 e1 had hx c1 hb2 HB hrx
      go_wp2_with fail
      refine regionWD _ _ _ _ _ wr.heap.size x.lo x.hi rfl rfl (by kernel_rfl) (by kernel_rfl) (by first | simp | exact Nat.le_refl _ | decide) rfl Hr0.out Hr1.out m1 (by split <;> omega) (by split <;> omega) (by split <;> omega) m2 (by split <;> omega) (by split <;> omega) ?_
      intro V W_ hb_ hV
      have hVa : V 6 = .int .i64 x.lo := hV 6 (by decide)
      have hVb : V 7 = .int .i64 x.hi := hV 7 (by decide)
      simp [frS, stepS, Exit.then]
      rw [hVa, hVb]
      have HB3 := Lib.hid (HB2.out.trans (hb_.mono HB2.out.size))
      clear hb_ hV hVa hVb m1 m2
      go_wp2_with fail
      go_roundw
      case rel => exact ⟨k + 1, by omega, by go_num, by rw [HS.out], HB3⟩
      case measure => simp [intOf]; omega
    · have hkl : k = rs.length := by omega
      subst hkl
      go_wp2_with fail
      go_ret
      exact ⟨rfl, HB.out⟩
theorem tmod_of (k : Int) (a : Int) (hk : 0 < k) : (IntKind.u64.wrap a).tmod k = a % 18446744073709551616 % k := by
  have : IntKind.u64.wrap a = a % 18446744073709551616 := by simp [IntKind.wrap, IntKind.bits, IntKind.signed]
  rw [this, Int.tmod_eq_emod_of_nonneg (by omega)]
end Go.Proofs.YtgdpfjipgmfjfaaGreatDoor
