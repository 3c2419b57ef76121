/- rubricatorlaw11.WordLines answers true. The text is printed by wip/tools/mklines.py. -/
import Derived.Test.YtgdpfjipgmfjfaaGreatDoorWrdAw
import Derived.Test.YtgdpfjipgmfjfaaGreatDoorConc
import Derived.Test.YtgdpfjipgmfjfaaGreatDoorDagG
import Derived.Deep.DeepCutAuto
namespace Go.Proofs.YtgdpfjipgmfjfaaGreatDoor
open Go.RowKit
set_option linter.unusedVariables false
set_option linter.unusedSimpArgs false

abbrev dsLL : List (Option Tmp) := [some 8, some 9, some 10, some 11, some 12, some 13, some 14, some 15, some 16, some 17, some 0, some 1]
abbrev needsLL : List (Nat × Nat) := [(10, 0), (10, 1), (2, 1), (3, 2), (4, 0), (4, 3), (11, 5), (11, 6), (7, 6), (8, 7), (9, 5), (9, 8), (10, 4), (11, 9)]
abbrev opsLL : List Op := [.move (.tmp 0), .move (.tmp 0), .call { callee := .builtin .len, args := #[.tmp 9], argTypes := #[36] }, .call { callee := .builtin .min, args := #[.tmp 10, (.const (.int .i64 30))], argTypes := #[3, 3] }, .slice 36 (.tmp 8) none (some (.tmp 11)) none, .move (.tmp 1), .move (.tmp 1), .call { callee := .builtin .len, args := #[.tmp 14], argTypes := #[36] }, .call { callee := .builtin .min, args := #[.tmp 15, (.const (.int .i64 30))], argTypes := #[3, 3] }, .slice 36 (.tmp 13) none (some (.tmp 16)) none, .assign (.tmp 12), .assign (.tmp 17)]
abbrev gsLL : List (Option (Nat × Bool)) := [none, none, none, none, none, none, none, none, none, none, none, none]
def relLL (A B : Option Addr) (n c m d k q : Nat) : Nat → Value → World → Prop := fun kx vx W => match kx with
  | 0 => vx = .slice A n c
  | 1 => vx = .slice A n c
  | 2 => vx = .int .i64 n
  | 3 => vx = .int .i64 k
  | 4 => vx = .slice A k c
  | 5 => vx = .slice B m d
  | 6 => vx = .slice B m d
  | 7 => vx = .int .i64 m
  | 8 => vx = .int .i64 q
  | 9 => vx = .slice B q d
  | 10 => vx = .slice A k c
  | 11 => vx = .slice B q d
  | _ => True
set_option maxHeartbeats 1600000 in
theorem regionLL (a : Act) (ops : Array Oper) (rid : Nat) (Q : Exit → Act → World → Prop) (w : World) (A B : Option Addr) (n c m d k q : Nat) (hops : ops.toList.map (·.op) = opsLL) (hgs : ops.toList.map (·.guard) = gsLL) (hok : dagOkG ops dsLL = true) (hnd : needsOk2 ops needsLL = true) (hsz : 18 ≤ a.tmps.size)
    (h0 : a.tmps.getD 0 undef = .slice A n c)
    (h1 : a.tmps.getD 1 undef = .slice B m d)
    (mk1 : (if 30 < (n : Int) then 30 else (n : Int)) = k) (mq1 : (if 30 < (m : Int) then 30 else (m : Int)) = q) (mk2 : min (n : Int) 30 = k) (mq2 : min (m : Int) 30 = q) (ck : k ≤ c) (cq : q ≤ d)
    (hend : ∀ vs W, (fun W => Below w.heap.size w W) W → (∀ j, j < 12 → relLL A B n c m d k q j (vs j) W) → Q .normal { a with tmps := frS (fun j => decide (j < 12)) vs 0 dsLL a.tmps } W) :
    (Code.region rid ops true).wp Tryz.prog Q a w := by
  have hlen : ops.size = 12 := by have := congrArg List.length hops; simpa using this
  have hop : ∀ (i : Nat) (o : Oper), ops[i]? = some o → ∀ x, opsLL[i]? = some x → o.op = x := by
    intro i o ho x hx
    rw [← hops, List.getElem?_map, Array.getElem?_toList, ho] at hx
    simpa using hx
  have hgu : ∀ (i : Nat) (o : Oper), ops[i]? = some o → ∀ x, gsLL[i]? = some x → o.guard = x := by
    intro i o ho x hx
    rw [← hgs, List.getElem?_map, Array.getElem?_toList, ho] at hx
    simpa using hx
  rw [← hlen] at hend
  refine wp_region_rel (by kernel_rfl) dsLL hok (fun t ht => Nat.lt_of_lt_of_le (of_decide_eq_true (List.all_eq_true.1 (show dsLL.all (fun d => match d with | some t => decide (t < 18) | none => true) = true from rfl) _ ht)) hsz) (relLL A B n c m d k q) (fun W => Below w.heap.size w W) ?_ ?_ ?_ hend
  · intro i v W W' h hb
    unfold relLL at h ⊢
    split at h
    · exact h
    · exact h
    · exact h
    · exact h
    · exact h
    · exact h
    · exact h
    · exact h
    · exact h
    · exact h
    · exact h
    · exact h
    · exact h
  · exact ⟨rfl, rfl, rfl, Nat.le_refl _, fun _ _ => rfl⟩
  intro kx o ho ρ W hb hρ hold hold2 hcon hfun _
  have hkx : kx < 12 := by rw [← hlen]; exact (Array.getElem?_eq_some_iff.1 ho).1
  match kx, hkx with
  | 0, _ =>
    have hg := hgu 0 o ho _ rfl
    have ho' := hop 0 o ho _ rfl
    simp only [hg]
    have e0 : ρ (.tmp 0) = .slice A n c := (hold2 0 10 rfl (needs2_get hnd 10 0 (by decide))).trans h0
    exact .inl ⟨_, rfl, .inl (by unfold execOp; rw [ho']; go_simp)⟩
  | 1, _ =>
    have hg := hgu 1 o ho _ rfl
    have ho' := hop 1 o ho _ rfl
    simp only [hg]
    have e0 : ρ (.tmp 0) = .slice A n c := (hold2 0 10 rfl (needs2_get hnd 10 1 (by decide))).trans h0
    exact .inl ⟨_, rfl, .inl (by unfold execOp; rw [ho']; go_simp)⟩
  | 2, _ =>
    have hg := hgu 2 o ho _ rfl
    have ho' := hop 2 o ho _ rfl
    simp only [hg]
    have q9 : ρ (.tmp 9) = .slice A n c := hρ 1 (needs2_get hnd 2 1 (by decide)) 9 rfl
    exact .inl ⟨_, rfl, .inl (by unfold execOp; rw [ho']; go_simp)⟩
  | 3, _ =>
    have hg := hgu 3 o ho _ rfl
    have ho' := hop 3 o ho _ rfl
    simp only [hg]
    have q10 : ρ (.tmp 10) = .int .i64 n := hρ 2 (needs2_get hnd 3 2 (by decide)) 10 rfl
    exact .inl ⟨_, rfl, .inl (by unfold execOp; rw [ho']; go_simp)⟩
  | 4, _ =>
    have hg := hgu 4 o ho _ rfl
    have ho' := hop 4 o ho _ rfl
    simp only [hg]
    have q8 : ρ (.tmp 8) = .slice A n c := hρ 0 (needs2_get hnd 4 0 (by decide)) 8 rfl
    have q11 : ρ (.tmp 11) = .int .i64 k := hρ 3 (needs2_get hnd 4 3 (by decide)) 11 rfl
    exact .inl ⟨_, rfl, .inl (by unfold execOp; rw [ho']; go_simp)⟩
  | 5, _ =>
    have hg := hgu 5 o ho _ rfl
    have ho' := hop 5 o ho _ rfl
    simp only [hg]
    have e1 : ρ (.tmp 1) = .slice B m d := (hold2 1 11 rfl (needs2_get hnd 11 5 (by decide))).trans h1
    exact .inl ⟨_, rfl, .inl (by unfold execOp; rw [ho']; go_simp)⟩
  | 6, _ =>
    have hg := hgu 6 o ho _ rfl
    have ho' := hop 6 o ho _ rfl
    simp only [hg]
    have e1 : ρ (.tmp 1) = .slice B m d := (hold2 1 11 rfl (needs2_get hnd 11 6 (by decide))).trans h1
    exact .inl ⟨_, rfl, .inl (by unfold execOp; rw [ho']; go_simp)⟩
  | 7, _ =>
    have hg := hgu 7 o ho _ rfl
    have ho' := hop 7 o ho _ rfl
    simp only [hg]
    have q14 : ρ (.tmp 14) = .slice B m d := hρ 6 (needs2_get hnd 7 6 (by decide)) 14 rfl
    exact .inl ⟨_, rfl, .inl (by unfold execOp; rw [ho']; go_simp)⟩
  | 8, _ =>
    have hg := hgu 8 o ho _ rfl
    have ho' := hop 8 o ho _ rfl
    simp only [hg]
    have q15 : ρ (.tmp 15) = .int .i64 m := hρ 7 (needs2_get hnd 8 7 (by decide)) 15 rfl
    exact .inl ⟨_, rfl, .inl (by unfold execOp; rw [ho']; go_simp)⟩
  | 9, _ =>
    have hg := hgu 9 o ho _ rfl
    have ho' := hop 9 o ho _ rfl
    simp only [hg]
    have q13 : ρ (.tmp 13) = .slice B m d := hρ 5 (needs2_get hnd 9 5 (by decide)) 13 rfl
    have q16 : ρ (.tmp 16) = .int .i64 q := hρ 8 (needs2_get hnd 9 8 (by decide)) 16 rfl
    exact .inl ⟨_, rfl, .inl (by unfold execOp; rw [ho']; go_simp)⟩
  | 10, _ =>
    have hg := hgu 10 o ho _ rfl
    have ho' := hop 10 o ho _ rfl
    simp only [hg]
    have q12 : ρ (.tmp 12) = .slice A k c := hρ 4 (needs2_get hnd 10 4 (by decide)) 12 rfl
    exact .inl ⟨_, rfl, .inl (by unfold execOp; rw [ho']; go_simp)⟩
  | 11, _ =>
    have hg := hgu 11 o ho _ rfl
    have ho' := hop 11 o ho _ rfl
    simp only [hg]
    have q17 : ρ (.tmp 17) = .slice B q d := hρ 9 (needs2_get hnd 11 9 (by decide)) 17 rfl
    exact .inl ⟨_, rfl, .inl (by unfold execOp; rw [ho']; go_simp)⟩
theorem own_lit1 (w : World) (e : TypeId) (a : Value) : (w.alloc (.cells #[a] e)).ownsRow w.heap.size e 1 (.slice (some ⟨w.heap.size, 0, none⟩) 1 1) 1 [a] :=
  ⟨rfl, .inr ⟨w.heap.size, 1, #[a], rfl, Nat.le_refl _, row_new _ _, by omega, by unfold maxLen; omega, rfl, rfl⟩⟩
set_option maxRecDepth 100000 in
set_option maxHeartbeats 3200000 in
theorem wordLines_walk {va vb : Value} {xs0 ys0 : List Int} (w : World) (ha : ListV w va xs0) (hb : ListV w vb ys0) (hE : Env w) (hT : EnvT w) : Calls Tryz.prog 13 #[va, vb] w fun e w' => e = .returned (.bool true) ∧ Below w.heap.size w w' := by
  have HLD := Lib.hid (fun (W : World) (hb : Below w.heap.size w W) => load_calls W (hE.below hb) (hT.below hb))
  have HA := Lib.hid (fun (W : World) (hb : Below w.heap.size w W) => awake11_walk W (hE.below hb) (hT.below hb))
  have HEd := Lib.hid (fun (W : World) (m : Nat) (zs : List Int) (v : Value) (ht : TabAt W m files) (hl : ListAt W v zs) (p : Int) (hp : (Lit.int .i64 p).wf = true) => wedgef_walk ht hl p hp)
  have Hpre := Lib.hid files_words
  generalize files = Φ at *
  clear hE hT
  obtain ⟨A, c, rfl, hac, han, hA0⟩ := ha.form
  obtain ⟨B, d, rfl, hbd, hbn, hB0⟩ := hb.form
  obtain ⟨k, hk1, hk2⟩ : ∃ k : Nat, (if 30 < (xs0.length : Int) then 30 else (xs0.length : Int)) = k ∧ (k ≤ 30 ∧ k ≤ xs0.length) := by
    by_cases h : 30 < (xs0.length : Int)
    · exact ⟨30, by rw [if_pos h]; rfl, by omega⟩
    · exact ⟨xs0.length, by rw [if_neg h], by omega⟩
  obtain ⟨q, hq1, hq2⟩ : ∃ q : Nat, (if 30 < (ys0.length : Int) then 30 else (ys0.length : Int)) = q ∧ (q ≤ 30 ∧ q ≤ ys0.length) := by
    by_cases h : 30 < (ys0.length : Int)
    · exact ⟨30, by rw [if_pos h]; rfl, by omega⟩
    · exact ⟨ys0.length, by rw [if_neg h], by omega⟩
  have HAL := Lib.hid (ha.cut hk2.2)
  have HBL := Lib.hid (hb.cut hq2.2)
  obtain ⟨xs, has, hal⟩ : ∃ xs : List Int, xs = xs0.take k ∧ xs.length = k := ⟨_, rfl, by rw [List.length_take]; omega⟩
  obtain ⟨ys, hbs, hbl⟩ : ∃ ys : List Int, ys = ys0.take q ∧ ys.length = q := ⟨_, rfl, by rw [List.length_take]; omega⟩
  rw [← has] at HAL
  rw [← hbs] at HBL
  have Hk1 := Lib.hid hk1
  have Hq1 := Lib.hid hq1
  have Hk3 := Lib.hid (show min (xs0.length : Int) 30 = k by rw [← hk1]; split <;> omega)
  have Hq3 := Lib.hid (show min (ys0.length : Int) 30 = q by rw [← hq1]; split <;> omega)
  clear ha hb has hbs hk1 hq1
  subst hal
  subst hbl
  go_enter Tryz.func13, Tryz.ntmps13
  go_upto_region 1 with fail
  go_cut [0, 1] (fun x y wx => x = .slice A xs.length c ∧ y = .slice B ys.length d ∧ Below w.heap.size w wx)
  case first =>
    refine regionLL _ _ _ _ _ A B xs0.length c ys0.length d xs.length ys.length rfl rfl (by kernel_rfl) (by kernel_rfl) (by first | simp | exact Nat.le_refl _ | decide) rfl rfl Hk1.out Hq1.out Hk3.out Hq3.out (by omega) (by omega) ?_
    intro V W_ hb_ hV
    have hVa : V 10 = .slice A xs.length c := hV 10 (by decide)
    have hVb : V 11 = .slice B ys.length d := hV 11 (by decide)
    simp [frS, stepS, Exit.then]
    rw [hVa, hVb]
    clear hV hVa hVb
    go_wp2_with fail
    go_meet
    case rel => exact ⟨rfl, rfl, hb_⟩
  case rest =>
  obtain ⟨rfl, rfl, hb_⟩ := hcut
  have HB0 := Lib.hid hb_
  have hk30 := hk2.1
  have hq30 := hq2.1
  clear hb_ Hk1 Hq1 hk2 hq2
  go_wp2_with fail
  refine (HLD.out _ HB0.out).mono ?_
  rintro e w1 ⟨rfl, ht, hb1⟩
  have HT1 := Lib.hid ht
  have HB1 := Lib.hid (HB0.out.trans (hb1.mono HB0.out.size))
  clear ht hb1 HLD
  have hb2 := alloc_below w1 (Obj.cells #[Value.int IntKind.i64 10] 3)
  have l10 := ListV.of_own (zs := [10]) (own_lit1 w1 3 (Value.int .i64 10))
  have hb3 := alloc_below (w1.alloc (Obj.cells #[Value.int IntKind.i64 10] 3)) (Obj.cells #[Value.slice A xs.length c, Value.slice (some ⟨w1.heap.size, 0, none⟩) 1 1, Value.slice B ys.length d] 36)
  have hrow := (cells_of_row (row_new (w1.alloc (Obj.cells #[Value.int IntKind.i64 10] 3)) (Obj.cells #[Value.slice A xs.length c, Value.slice (some ⟨w1.heap.size, 0, none⟩) 1 1, Value.slice B ys.length d] 36))).1
  rw [size_new] at hrow
  have hb23 := hb2.trans (hb3.mono hb2.size)
  have HB3 := Lib.hid (HB1.out.trans (hb23.mono HB1.out.size))
  have HT3 := Lib.hid (HT1.out.below hb23)
  have HAL3 := Lib.hid (HAL.out.below HB3.out)
  have HBL3 := Lib.hid (HBL.out.below HB3.out)
  have L10 := Lib.hid (l10.below hb3)
  obtain ⟨W3, hW3⟩ : ∃ W3, W3 = (w1.alloc (Obj.cells #[Value.int IntKind.i64 10] 3)).alloc (Obj.cells #[Value.slice A xs.length c, Value.slice (some ⟨w1.heap.size, 0, none⟩) 1 1, Value.slice B ys.length d] 36) := ⟨_, rfl⟩
  rw [← hW3] at hrow HB3 HT3 HAL3 HBL3 L10
  have HC := Lib.hid (concat_walk (w := W3) (g := w1.heap.size + 1) (cap := 3) [xs, [10], ys] [Value.slice A xs.length c, Value.slice (some ⟨w1.heap.size, 0, none⟩) 1 1, Value.slice B ys.length d] rfl (by simp)
    (fun i l u h1 h2 => by
      match i, h1, h2 with
      | 0, h1, h2 => cases h1; cases h2; exact HAL3.out
      | 1, h1, h2 => cases h1; cases h2; exact L10.out
      | 2, h1, h2 => cases h1; cases h2; exact HBL3.out
      | n + 3, h1, h2 => cases h1)
    (fun i u h => (hrow i).trans (by simpa using h)) (by simp; omega) (by simp; omega) (by simp))
  obtain ⟨ls, hls⟩ : ∃ ls, ls = xs ++ [10] ++ ys := ⟨_, rfl⟩
  have hflat : ([xs, [10], ys] : List (List Int)).flatten = ls := by rw [hls]; simp
  rw [hflat] at HC
  clear hb2 hb3 hb23 hrow l10 L10 HT1 HB1 HBL3 HBL hflat
  go_wp2_with fail
  rw [← hW3]
  clear hW3
  refine HC.out.mono ?_
  rintro e w4 ⟨v4, rfl, hr4, hb4⟩
  obtain ⟨A4, c4, rfl⟩ := own_slice hr4
  have HL4 := Lib.hid (ListAt.of_own hr4)
  have HB4 := Lib.hid (HB3.out.trans (hb4.mono HB3.out.size))
  have HT4 := Lib.hid (HT3.out.below hb4)
  have HAL4 := Lib.hid (HAL3.out.below hb4)
  have h1 := Lib.hid (show edgeW (wOf Φ (ls)) (ls).length ((xs.length : Nat)) = !(decide (0 < xs.length) && (xs.getD (xs.length - 1) 0 == 13)) by rw [hls]; exact words_ahead Hpre.out xs ys)
  have h2 := Lib.hid (show edgeW (wOf Φ (ls)) (ls).length ((xs.length : Nat) + 1) = true by rw [hls]; exact words_behind Hpre.out xs ys)
  clear hls
  clear hr4 hb4 HC HB3 HT3 HAL3 HAL
  go_upto_region 4 with fail
  go_cut [7] (fun x wx => x = .bool (decide (0 < xs.length) && (xs.getD (xs.length - 1) 0 == 13)) ∧ wx = w4)
  case first =>
    by_cases h0 : 0 < xs.length
    · obtain ⟨ad, rfl, hcell⟩ := HAL4.out.cell (xs.length - 1) (by omega)
      have d0 : decide ((xs.length : Int) > 0) = true := by rw [decide_eq_true_eq]; omega
      have a1 : IntKind.i64.wrap ((xs.length : Int) - 1) = ((xs.length - 1 : Nat) : Int) := by rw [IntKind.wrap_i64]; omega
      have a2 : wrap64 ((xs.length : Int) - 1) = ((xs.length - 1 : Nat) : Int) := by unfold wrap64; omega
      have i1 : (((xs.length - 1 : Nat) : Int)) < (xs.length : Int) := by omega
      cases hz : xs.getD (xs.length - 1) 0 == 13 with
      | true =>
        go_wp2_with fail
        go_meet
        case rel => exact ⟨by rw [decide_eq_true h0, hz, ← List.getD_eq_getElem?_getD, hz]; first | done | rfl, rfl⟩
      | false =>
        go_wp2_with fail
        go_meet
        case rel => exact ⟨by rw [decide_eq_true h0, hz, ← List.getD_eq_getElem?_getD, hz]; first | done | rfl, rfl⟩
    · have d0 : decide ((xs.length : Int) > 0) = false := by rw [decide_eq_false_iff_not]; omega
      go_wp2_with fail
      go_meet
      case rel => exact ⟨by rw [decide_eq_false h0]; first | done | rfl, rfl⟩
  case rest =>
  obtain ⟨rfl, rfl⟩ := hcut
  obtain ⟨cr, hcr⟩ : ∃ cr : Bool, Hid (cr = (decide (0 < xs.length) && (xs.getD (xs.length - 1) 0 == 13))) := ⟨_, rfl⟩
  rw [← hcr.out] at h1 ⊢
  clear hcr HAL4
  go_wp2_with fail
  refine (HEd.out _ _ _ _ HT4.out HL4.out (xs.length : Nat) (wf_i64 (by omega) (by omega))).mono ?_
  rintro e w5 ⟨rfl, hb5⟩
  rw [show edgeW (wOf Φ (ls)) (ls).length ((xs.length : Nat)) = !cr from h1.out]
  have HL5 := Lib.hid (HL4.out.below hb5)
  have HB5 := Lib.hid (HB4.out.trans (hb5.mono HB4.out.size))
  have HT5 := Lib.hid (HT4.out.below hb5)
  have a1 : IntKind.i64.wrap ((xs.length : Int) + 1) = (xs.length : Int) + 1 := by rw [IntKind.wrap_i64]; omega
  have cc : ((!cr) == (!cr)) = true := by simp
  clear hb5 HL4 HB4 HT4 h1
  go_wp2_with fail
  refine (HEd.out _ _ _ _ HT5.out HL5.out ((xs.length : Nat) + 1) (wf_i64 (by omega) (by omega))).mono ?_
  rintro e w6 ⟨rfl, hb6⟩
  rw [show edgeW (wOf Φ (ls)) (ls).length ((xs.length : Nat) + 1) = true from h2.out]
  have HB6 := Lib.hid (HB5.out.trans (hb6.mono HB5.out.size))
  clear hb6 HL5 HB5 HT5 h2
  go_wp2_with fail
  refine (HA.out _ HB6.out).mono ?_
  rintro e w7 ⟨rfl, hb7⟩
  have HB7 := Lib.hid (HB6.out.trans (hb7.mono HB6.out.size))
  clear hb7
  go_wp2_with fail
  go_ret
  exact ⟨rfl, HB7.out⟩
end Go.Proofs.YtgdpfjipgmfjfaaGreatDoor
