/- word: the break at a place, the next place in a direction; what joined tells. The lemmas of the regions that draw their order are printed by wip/tools/mkwrd.py. -/
import Derived.Test.YtkgomgfhfoomhaaGreatDoorWrdA
import Derived.Test.YtkgomgfhfoomhaaGreatDoorAccW
import Derived.Deep.DeepCutAuto
namespace Go.Proofs.YtkgomgfhfoomhaaGreatDoor
open Go.RowKit
set_option linter.unusedVariables false
set_option linter.unusedSimpArgs false

theorem word_acc_walk {w : World} {m : Nat} {Φ : Files} (h : TabAt w m Φ) (hok : FilesOk Φ) (r : Int) : Calls Tryz.prog 111 #[.pointer (some ⟨m + 3, 0, none⟩), .int .i64 r] w fun e w' => e = .returned (.string ⟨(txOf Φ.word r []).toArray⟩) ∧ Below w.heap.size w w' := by
  have hn := none_walk h
  obtain ⟨⟨p0, p1, p2, p3, p4, vv, kv, hb, hf⟩, _⟩ := h
  have hc : w.cell? ⟨m + 3, 4, none⟩ = some (.pointer (some ⟨p4, 0, none⟩)) := hb.cell 4
  have ho := or_walk hf.t4 r (by have := valsOf_len Φ.word; have := hok.word.le; omega) []
  have HN := Lib.hid hn
  have HO := Lib.hid ho
  clear hn ho hb hf
  go_enter Tryz.func111, Tryz.ntmps111
  go_wp2_with fail
  refine HN.out.mono ?_
  rintro e w' ⟨rfl, rfl⟩
  go_wp2_with fail
  refine HO.out.mono ?_
  rintro e w1 ⟨rfl, hb1⟩
  have HB1 := Lib.hid hb1
  clear hb1 HO HN
  go_wp2_with fail
  go_ret
  exact ⟨rfl, HB1.out⟩
abbrev dsAt : List (Option Tmp) := [some 14, some 15, some 16, some 17, some 18, some 19, some 20, some 21, some 4]
abbrev needsAt : List (Nat × Nat) := [(1, 0), (3, 2), (5, 3), (5, 4), (6, 5), (7, 1), (7, 6), (8, 7)]
abbrev opsAt : List Op := [.fieldAddr 89 (.tmp 2) 0, .load 23 (.tmp 14), .fieldAddr 89 (.tmp 2) 1, .load 22 (.tmp 16), .move (.tmp 1), .indexAddr 22 (.tmp 17) (.tmp 18), .load 3 (.tmp 19), .call { callee := .value (.func 111), args := #[.tmp 15, .tmp 20], argTypes := #[23, 3] }, .assign (.tmp 21)]
abbrev gsAt : List (Option (Nat × Bool)) := [none, none, none, none, none, none, none, none, none]
def relAt (m b2 i : Nat) (Φ : Files) (zs : List Int) (ad : Addr) (c : Nat) : Nat → Value → World → Prop := fun kx vx W => match kx with
  | 0 => vx = .pointer (some ⟨b2, 0, none⟩)
  | 1 => vx = .pointer (some ⟨m + 3, 0, none⟩)
  | 2 => vx = .pointer (some ⟨b2, 1, none⟩)
  | 3 => vx = .slice (some ad) zs.length c
  | 4 => vx = .int .i64 i
  | 5 => vx = .pointer (some (ad.add i))
  | 6 => vx = .int .i64 (zs.getD i 0)
  | 7 => vx = .string ⟨(txOf Φ.word (zs.getD i 0) []).toArray⟩
  | 8 => vx = .string ⟨(txOf Φ.word (zs.getD i 0) []).toArray⟩
  | _ => True
set_option maxHeartbeats 1600000 in
theorem regionAt (a : Act) (ops : Array Oper) (rid : Nat) (Q : Exit → Act → World → Prop) (w : World) (m b2 i : Nat) (Φ : Files) (zs : List Int) (ad : Addr) (c : Nat) (hops : ops.toList.map (·.op) = opsAt) (hgs : ops.toList.map (·.guard) = gsAt) (hok : dagOkG ops dsAt = true) (hnd : needsOk2 ops needsAt = true) (hsz : 22 ≤ a.tmps.size)
    (h1 : a.tmps.getD 1 undef = .int .i64 i)
    (h2 : a.tmps.getD 2 undef = .pointer (some ⟨b2, 0, none⟩))
    (ht : TabAt w m Φ) (hfo : FilesOk Φ) (c3 : w.cell? ⟨b2, 0, none⟩ = some (.pointer (some ⟨m + 3, 0, none⟩))) (c4 : w.cell? ⟨b2, 1, none⟩ = some (.slice (some ad) zs.length c)) (hi : i < zs.length) (hn : zs.length ≤ 9223372036854775807)
    (hzi : w.cell? (ad.add i) = some (.int .i64 (zs.getD i 0)))
    (hend : ∀ vs W, (fun W => Below w.heap.size w W) W → (∀ j, j < 9 → relAt m b2 i Φ zs ad c j (vs j) W) → Q .normal { a with tmps := frS (fun j => decide (j < 9)) vs 0 dsAt a.tmps } W) :
    (Code.region rid ops true).wp Tryz.prog Q a w := by
  have hlen : ops.size = 9 := by have := congrArg List.length hops; simpa using this
  have hop : ∀ (i : Nat) (o : Oper), ops[i]? = some o → ∀ x, opsAt[i]? = some x → o.op = x := by
    intro i o ho x hx
    rw [← hops, List.getElem?_map, Array.getElem?_toList, ho] at hx
    simpa using hx
  have hgu : ∀ (i : Nat) (o : Oper), ops[i]? = some o → ∀ x, gsAt[i]? = some x → o.guard = x := by
    intro i o ho x hx
    rw [← hgs, List.getElem?_map, Array.getElem?_toList, ho] at hx
    simpa using hx
  rw [← hlen] at hend
  refine wp_region_rel (by kernel_rfl) dsAt hok (fun t ht => Nat.lt_of_lt_of_le (of_decide_eq_true (List.all_eq_true.1 (show dsAt.all (fun d => match d with | some t => decide (t < 22) | none => true) = true from rfl) _ ht)) hsz) (relAt m b2 i Φ zs ad c) (fun W => Below w.heap.size w W) ?_ ?_ ?_ hend
  · intro i v W W' h hb
    unfold relAt at h ⊢
    split at h
    · exact h
    · exact h
    · exact h
    · exact h
    · exact h
    · exact h
    · exact h
    · exact h
    · exact h
    · exact h
  · exact ⟨rfl, rfl, rfl, Nat.le_refl _, fun _ _ => rfl⟩
  intro kx o ho ρ W hb hρ hold hold2 hcon hfun _
  have hkx : kx < 9 := by rw [← hlen]; exact (Array.getElem?_eq_some_iff.1 ho).1
  have e1 : ρ (.tmp 1) = .int .i64 i := (hold 1 (by decide)).trans h1
  have e2 : ρ (.tmp 2) = .pointer (some ⟨b2, 0, none⟩) := (hold 2 (by decide)).trans h2
  match kx, hkx with
  | 0, _ =>
    have hg := hgu 0 o ho _ rfl
    have ho' := hop 0 o ho _ rfl
    simp only [hg]
    exact .inl ⟨_, rfl, .inl (by unfold execOp; rw [ho']; go_simp)⟩
  | 1, _ =>
    have hg := hgu 1 o ho _ rfl
    have ho' := hop 1 o ho _ rfl
    simp only [hg]
    have q14 : ρ (.tmp 14) = .pointer (some ⟨b2, 0, none⟩) := hρ 0 (needs2_get hnd 1 0 (by decide)) 14 rfl
    have c0 := cell_later hb c3
    exact .inl ⟨_, rfl, .inl (by unfold execOp; rw [ho']; go_simp)⟩
  | 2, _ =>
    have hg := hgu 2 o ho _ rfl
    have ho' := hop 2 o ho _ rfl
    simp only [hg]
    exact .inl ⟨_, rfl, .inl (by unfold execOp; rw [ho']; go_simp)⟩
  | 3, _ =>
    have hg := hgu 3 o ho _ rfl
    have ho' := hop 3 o ho _ rfl
    simp only [hg]
    have q16 : ρ (.tmp 16) = .pointer (some ⟨b2, 1, none⟩) := hρ 2 (needs2_get hnd 3 2 (by decide)) 16 rfl
    have c0 := cell_later hb c4
    exact .inl ⟨_, rfl, .inl (by unfold execOp; rw [ho']; go_simp)⟩
  | 4, _ =>
    have hg := hgu 4 o ho _ rfl
    have ho' := hop 4 o ho _ rfl
    simp only [hg]
    exact .inl ⟨_, rfl, .inl (by unfold execOp; rw [ho']; go_simp)⟩
  | 5, _ =>
    have hg := hgu 5 o ho _ rfl
    have ho' := hop 5 o ho _ rfl
    simp only [hg]
    have q17 : ρ (.tmp 17) = .slice (some ad) zs.length c := hρ 3 (needs2_get hnd 5 3 (by decide)) 17 rfl
    have q18 : ρ (.tmp 18) = .int .i64 i := hρ 4 (needs2_get hnd 5 4 (by decide)) 18 rfl
    exact .inl ⟨_, rfl, .inl (by unfold execOp; rw [ho']; go_simp)⟩
  | 6, _ =>
    have hg := hgu 6 o ho _ rfl
    have ho' := hop 6 o ho _ rfl
    simp only [hg]
    have q19 : ρ (.tmp 19) = .pointer (some (ad.add i)) := hρ 5 (needs2_get hnd 6 5 (by decide)) 19 rfl
    have c0 := cell_later hb hzi
    exact .inl ⟨_, rfl, .inl (by unfold execOp; rw [ho']; go_simp)⟩
  | 7, _ =>
    have hg := hgu 7 o ho _ rfl
    have ho' := hop 7 o ho _ rfl
    simp only [hg]
    have q15 : ρ (.tmp 15) = .pointer (some ⟨m + 3, 0, none⟩) := hρ 1 (needs2_get hnd 7 1 (by decide)) 15 rfl
    have q20 : ρ (.tmp 20) = .int .i64 (zs.getD i 0) := hρ 6 (needs2_get hnd 7 6 (by decide)) 20 rfl
    refine .inr (.inr ⟨111, #[.pointer (some ⟨m + 3, 0, none⟩), .int .i64 (zs.getD i 0)], ?_, ?_⟩)
    · unfold execOp
      rw [ho']
      simp [go_sem, hfun, q15, q20, resolve, Act.eval]
    · refine (word_acc_walk (ht.below hb) hfo _).mono ?_
      rintro e W' ⟨rfl, hb'⟩
      exact ⟨_, rfl, hb.trans (hb'.mono hb.size), hb', rfl⟩
  | 8, _ =>
    have hg := hgu 8 o ho _ rfl
    have ho' := hop 8 o ho _ rfl
    simp only [hg]
    have q21 : ρ (.tmp 21) = .string ⟨(txOf Φ.word (zs.getD i 0) []).toArray⟩ := hρ 7 (needs2_get hnd 8 7 (by decide)) 21 rfl
    exact .inl ⟨_, rfl, .inl (by unfold execOp; rw [ho']; go_simp)⟩
/-- The value of a text: its tables, its code points. -/
def textV (m : Nat) (v : Value) : Value := .agg #[.pointer (some ⟨m + 3, 0, none⟩), v]
set_option maxRecDepth 100000 in
theorem wat_walk {w : World} {m : Nat} {Φ : Files} {zs : List Int} {v : Value} (ht : TabAt w m Φ) (hfo : FilesOk Φ) (hl : ListAt w v zs) (i : Int) :
    Calls Tryz.prog 71 #[textV m v, .int .i64 i] w fun e w' => e = .returned (.string ⟨(wOf Φ zs i).toArray⟩) ∧ Below w.heap.size w w' := by
  obtain ⟨A, c, rfl, hn, hz0⟩ := hl
  unfold textV
  have hb0 := alloc_below w (Obj.cells #[.pointer (some ⟨m + 3, 0, none⟩), .slice A zs.length c] 89)
  have c3 := (cells_of_row (row_new w (Obj.cells #[.pointer (some ⟨m + 3, 0, none⟩), .slice A zs.length c] 89))).1 0
  have c4 := (cells_of_row (row_new w (Obj.cells #[.pointer (some ⟨m + 3, 0, none⟩), .slice A zs.length c] 89))).1 1
  by_cases hneg : i < 0
  · rw [wOf_out Φ zs i (.inl hneg)]
    have d1 : decide (i < 0) = true := by simpa using hneg
    have HB := Lib.hid hb0
    clear hneg hz0 hb0
    go_enter Tryz.func71, Tryz.ntmps71
    go_wp2_with fail
    go_ret
    exact ⟨rfl, HB.out⟩
  · obtain ⟨q, rfl⟩ := Int.eq_ofNat_of_zero_le (show 0 ≤ i by omega)
    have d1 : decide ((q : Int) < 0) = false := by simp
    by_cases hq : q < zs.length
    · obtain ⟨ad, rfl, hz⟩ := hz0 (by omega)
      have d2 : decide (zs.length ≤ q) = false := by rw [decide_eq_false_iff_not]; omega
      have e : wOf Φ zs q = txOf Φ.word (zs.getD q 0) [] := by unfold wOf; rw [if_pos (by omega)]; rfl
      rw [e]
      have HT := Lib.hid (ht.below hb0)
      have Hz := Lib.hid (cell_later hb0 (hz q _ (intz_get zs q hq)))
      have HB := Lib.hid hb0
      have Hq := Lib.hid hq
      have C3 := Lib.hid c3
      have C4 := Lib.hid c4
      clear ht hz hz0 hneg hb0 hq e
      go_enter Tryz.func71, Tryz.ntmps71
      go_wp2_with fail
      refine regionAt _ _ _ _ _ m w.heap.size q Φ zs ad c rfl rfl (by kernel_rfl) (by kernel_rfl) (by first | simp | exact Nat.le_refl _ | decide) rfl rfl HT.out hfo C3.out C4.out Hq.out hn Hz.out ?_
      intro V W hb hV
      have hV8 : V 8 = .string ⟨(txOf Φ.word (zs.getD q 0) []).toArray⟩ := hV 8 (by decide)
      simp [frS, stepS, Exit.then]
      rw [hV8]
      have HB2 := Lib.hid (HB.out.trans (hb.mono HB.out.size))
      clear hb hV hV8 HB
      go_wp2_with fail
      go_ret
      exact ⟨rfl, HB2.out⟩
    · rw [wOf_out Φ zs q (.inr (by omega))]
      have d2 : decide (zs.length ≤ q) = true := by rw [decide_eq_true_eq]; omega
      have HB := Lib.hid hb0
      clear hneg hz0 hb0 hq
      go_enter Tryz.func71, Tryz.ntmps71
      go_wp2_with fail
      go_ret
      exact ⟨rfl, HB.out⟩
set_option maxRecDepth 100000 in
set_option maxHeartbeats 1600000 in
theorem stepB_walk {w : World} {m : Nat} {Φ : Files} {zs : List Int} {v : Value} (ht : TabAt w m Φ) (hfo : FilesOk Φ) (hl : ListAt w v zs) (i : Int) (hi : 0 ≤ i ∧ i ≤ zs.length) :
    Calls Tryz.prog 74 #[textV m v, .int .i64 i, .int .i64 (-1)] w fun e w' => e = .returned (.int .i64 (stepB (wOf Φ zs) zs.length i)) ∧ Below w.heap.size w w' := by
  have hl0 := hl
  obtain ⟨A, c, rfl, hn, hz0⟩ := hl
  unfold textV
  have hb0 := alloc_below w (Obj.cells #[.pointer (some ⟨m + 3, 0, none⟩), .slice A zs.length c] 89)
  have c3 := (cells_of_row (row_new w (Obj.cells #[.pointer (some ⟨m + 3, 0, none⟩), .slice A zs.length c] 89))).1 0
  have c4 := (cells_of_row (row_new w (Obj.cells #[.pointer (some ⟨m + 3, 0, none⟩), .slice A zs.length c] 89))).1 1
  have HT := Lib.hid (ht.below hb0)
  have HL := Lib.hid (hl0.below hb0)
  have HB := Lib.hid hb0
  have a0 : wrap64 (i + -1) = i - 1 := by unfold wrap64; omega
  have a00 : IntKind.i64.wrap (i + -1) = i - 1 := by rw [IntKind.wrap_i64]; omega
  clear ht hl0 hz0 hb0
  go_enter Tryz.func74, Tryz.ntmps74
  go_wp2_with fail
  obtain ⟨W0, hW0⟩ : ∃ W0, W0 = w.alloc (Obj.cells #[.pointer (some ⟨m + 3, 0, none⟩), .slice A zs.length c] 89) := ⟨_, rfl⟩
  rw [← hW0] at c3 c4 HT HL HB ⊢
  clear hW0
  go_loopw [1] (fun j wr => ∃ j' : Int, j = .int .i64 j' ∧ (-1 ≤ j' ∧ j' < i) ∧ Hid (backAt (wOf Φ zs) (i - 1) = backAt (wOf Φ zs) j') ∧ Hid (Below W0.heap.size W0 wr)) (fun j _ => (intOf j + 1).toNat)
  case atStart => exact ⟨i - 1, rfl, by omega, rfl, Below.refl _ _⟩
  case round =>
    obtain ⟨j, rfl, hj, HI, HBj⟩ := hrel
    have c3j := cell_later HBj.out c3
    have c4j := cell_later HBj.out c4
    go_wp2_with fail
    refine (wat_walk (HT.out.below HBj.out) hfo (HL.out.below HBj.out) j).mono ?_
    rintro e w1 ⟨rfl, hb1⟩
    have HB1 := Lib.hid (HBj.out.trans (hb1.mono HBj.out.size))
    clear hb1 c3j c4j
    go_wp2_with fail
    refine (passed_walk _ _).mono ?_
    rintro e w1' ⟨rfl, rfl⟩
    rw [show (⟨(wOf Φ zs j).toArray⟩ : ByteArray).toList = wOf Φ zs j from toBl _]
    have c3j := cell_later HB1.out c3
    have c4j := cell_later HB1.out c4
    cases hp : passedB (wOf Φ zs j) with
    | true =>
      have hin : 0 ≤ j ∧ j < zs.length := by
        rcases Int.lt_or_le j 0 with h | h
        · rw [wOf_out Φ zs j (.inl h)] at hp
          exact absurd hp (by decide)
        · rcases Int.lt_or_le j zs.length with h2 | h2
          · exact ⟨h, h2⟩
          · rw [wOf_out Φ zs j (.inr h2)] at hp
            exact absurd hp (by decide)
      have HI2 := Lib.hid (show backAt (wOf Φ zs) (i - 1) = backAt (wOf Φ zs) (j - 1) by rw [HI.out, backAt_more hp (by omega)])
      have a1 : wrap64 (j + -1) = j - 1 := by unfold wrap64; omega
      have a2 : IntKind.i64.wrap (j + -1) = j - 1 := by rw [IntKind.wrap_i64]; omega
      clear hp HI HBj
      go_wp2_with fail
      go_roundw
      case rel => exact ⟨j - 1, rfl, by omega, HI2, HB1⟩
      case measure => simp only [intOf]; omega
    | false =>
      have HS := Lib.hid (show stepB (wOf Φ zs) zs.length i = stopAt (wOf Φ zs) zs.length j by unfold stepB; rw [HI.out, backAt_end hp])
      clear hp HI HBj
      by_cases h1 : j < 0
      · have He := Lib.hid (show stepB (wOf Φ zs) zs.length i = -1 by rw [HS.out]; unfold stopAt; rw [if_pos h1])
        have d1 : decide (j < 0) = true := decide_eq_true h1
        clear HS h1
        go_wp2_with fail
        go_ret
        exact ⟨by rw [He.out]; first | done | rfl, HB.out.trans (HB1.out.mono HB.out.size)⟩
      · have d1 : decide (j < 0) = false := decide_eq_false h1
        by_cases h2 : (zs.length : Int) ≤ j
        · have He := Lib.hid (show stepB (wOf Φ zs) zs.length i = -1 by rw [HS.out]; unfold stopAt; rw [if_neg h1, if_pos h2])
          have d2 : decide (j ≥ (zs.length : Int)) = true := decide_eq_true h2
          clear HS h1 h2
          go_wp2_with fail
          go_ret
          exact ⟨by rw [He.out]; first | done | rfl, HB.out.trans (HB1.out.mono HB.out.size)⟩
        · have d2 : decide (j ≥ (zs.length : Int)) = false := decide_eq_false h2
          have HS2 := Lib.hid (show stepB (wOf Φ zs) zs.length i = if lineB (wOf Φ zs j) then -1 else j by rw [HS.out]; unfold stopAt; rw [if_neg h1, if_neg h2])
          clear HS h1 h2
          go_wp2_with fail
          refine (wat_walk (HT.out.below HB1.out) hfo (HL.out.below HB1.out) j).mono ?_
          rintro e w2 ⟨rfl, hb2⟩
          have HB2 := Lib.hid (HB1.out.trans (hb2.mono HB1.out.size))
          clear hb2 c3j c4j
          go_wp2_with fail
          refine (line_walk _ _).mono ?_
          rintro e w2' ⟨rfl, rfl⟩
          rw [show (⟨(wOf Φ zs j).toArray⟩ : ByteArray).toList = wOf Φ zs j from toBl _]
          cases hq : lineB (wOf Φ zs j) with
          | true =>
            have He := Lib.hid (show stepB (wOf Φ zs) zs.length i = -1 by rw [HS2.out, hq]; rfl)
            clear HS2 hq
            go_wp2_with fail
            go_ret
            exact ⟨by rw [He.out]; first | done | rfl, HB.out.trans (HB2.out.mono HB.out.size)⟩
          | false =>
            have He := Lib.hid (show stepB (wOf Φ zs) zs.length i = j by rw [HS2.out, hq]; rfl)
            clear HS2 hq
            go_wp2_with fail
            go_ret
            exact ⟨by rw [He.out]; first | done | rfl, HB.out.trans (HB2.out.mono HB.out.size)⟩
set_option maxRecDepth 100000 in
set_option maxHeartbeats 1600000 in
theorem stepF_walk {w : World} {m : Nat} {Φ : Files} {zs : List Int} {v : Value} (ht : TabAt w m Φ) (hfo : FilesOk Φ) (hl : ListAt w v zs) (i : Int) (hi : -1 ≤ i ∧ i < zs.length) :
    Calls Tryz.prog 74 #[textV m v, .int .i64 i, .int .i64 1] w fun e w' => e = .returned (.int .i64 (stepF (wOf Φ zs) zs.length i)) ∧ Below w.heap.size w w' := by
  have hl0 := hl
  obtain ⟨A, c, rfl, hn, hz0⟩ := hl
  unfold textV
  have hb0 := alloc_below w (Obj.cells #[.pointer (some ⟨m + 3, 0, none⟩), .slice A zs.length c] 89)
  have c3 := (cells_of_row (row_new w (Obj.cells #[.pointer (some ⟨m + 3, 0, none⟩), .slice A zs.length c] 89))).1 0
  have c4 := (cells_of_row (row_new w (Obj.cells #[.pointer (some ⟨m + 3, 0, none⟩), .slice A zs.length c] 89))).1 1
  have HT := Lib.hid (ht.below hb0)
  have HL := Lib.hid (hl0.below hb0)
  have HB := Lib.hid hb0
  have a0 : wrap64 (i + 1) = i + 1 := by unfold wrap64; omega
  have a00 : IntKind.i64.wrap (i + 1) = i + 1 := by rw [IntKind.wrap_i64]; omega
  clear ht hl0 hz0 hb0
  go_enter Tryz.func74, Tryz.ntmps74
  go_wp2_with fail
  obtain ⟨W0, hW0⟩ : ∃ W0, W0 = w.alloc (Obj.cells #[.pointer (some ⟨m + 3, 0, none⟩), .slice A zs.length c] 89) := ⟨_, rfl⟩
  rw [← hW0] at c3 c4 HT HL HB ⊢
  clear hW0
  go_loopw [1] (fun j wr => ∃ j' : Int, j = .int .i64 j' ∧ (i < j' ∧ j' ≤ zs.length) ∧ Hid (fwdAt (wOf Φ zs) zs.length (i + 1) = fwdAt (wOf Φ zs) zs.length j') ∧ Hid (Below W0.heap.size W0 wr)) (fun j _ => ((zs.length : Int) - intOf j).toNat)
  case atStart => exact ⟨i + 1, rfl, by omega, rfl, Below.refl _ _⟩
  case round =>
    obtain ⟨j, rfl, hj, HI, HBj⟩ := hrel
    have c3j := cell_later HBj.out c3
    have c4j := cell_later HBj.out c4
    go_wp2_with fail
    refine (wat_walk (HT.out.below HBj.out) hfo (HL.out.below HBj.out) j).mono ?_
    rintro e w1 ⟨rfl, hb1⟩
    have HB1 := Lib.hid (HBj.out.trans (hb1.mono HBj.out.size))
    clear hb1 c3j c4j
    go_wp2_with fail
    refine (passed_walk _ _).mono ?_
    rintro e w1' ⟨rfl, rfl⟩
    rw [show (⟨(wOf Φ zs j).toArray⟩ : ByteArray).toList = wOf Φ zs j from toBl _]
    have c3j := cell_later HB1.out c3
    have c4j := cell_later HB1.out c4
    cases hp : passedB (wOf Φ zs j) with
    | true =>
      have hin : 0 ≤ j ∧ j < zs.length := by
        rcases Int.lt_or_le j 0 with h | h
        · rw [wOf_out Φ zs j (.inl h)] at hp
          exact absurd hp (by decide)
        · rcases Int.lt_or_le j zs.length with h2 | h2
          · exact ⟨h, h2⟩
          · rw [wOf_out Φ zs j (.inr h2)] at hp
            exact absurd hp (by decide)
      have HI2 := Lib.hid (show fwdAt (wOf Φ zs) zs.length (i + 1) = fwdAt (wOf Φ zs) zs.length (j + 1) by rw [HI.out, fwdAt_more hp (by omega)])
      have a1 : wrap64 (j + 1) = j + 1 := by unfold wrap64; omega
      have a2 : IntKind.i64.wrap (j + 1) = j + 1 := by rw [IntKind.wrap_i64]; omega
      clear hp HI HBj
      go_wp2_with fail
      go_roundw
      case rel => exact ⟨j + 1, rfl, by omega, HI2, HB1⟩
      case measure => simp only [intOf]; omega
    | false =>
      have HS := Lib.hid (show stepF (wOf Φ zs) zs.length i = stopAt (wOf Φ zs) zs.length j by unfold stepF; rw [HI.out, fwdAt_end hp])
      clear hp HI HBj
      by_cases h1 : j < 0
      · have He := Lib.hid (show stepF (wOf Φ zs) zs.length i = -1 by rw [HS.out]; unfold stopAt; rw [if_pos h1])
        have d1 : decide (j < 0) = true := decide_eq_true h1
        clear HS h1
        go_wp2_with fail
        go_ret
        exact ⟨by rw [He.out]; first | done | rfl, HB.out.trans (HB1.out.mono HB.out.size)⟩
      · have d1 : decide (j < 0) = false := decide_eq_false h1
        by_cases h2 : (zs.length : Int) ≤ j
        · have He := Lib.hid (show stepF (wOf Φ zs) zs.length i = -1 by rw [HS.out]; unfold stopAt; rw [if_neg h1, if_pos h2])
          have d2 : decide (j ≥ (zs.length : Int)) = true := decide_eq_true h2
          clear HS h1 h2
          go_wp2_with fail
          go_ret
          exact ⟨by rw [He.out]; first | done | rfl, HB.out.trans (HB1.out.mono HB.out.size)⟩
        · have d2 : decide (j ≥ (zs.length : Int)) = false := decide_eq_false h2
          have HS2 := Lib.hid (show stepF (wOf Φ zs) zs.length i = if lineB (wOf Φ zs j) then -1 else j by rw [HS.out]; unfold stopAt; rw [if_neg h1, if_neg h2])
          clear HS h1 h2
          go_wp2_with fail
          refine (wat_walk (HT.out.below HB1.out) hfo (HL.out.below HB1.out) j).mono ?_
          rintro e w2 ⟨rfl, hb2⟩
          have HB2 := Lib.hid (HB1.out.trans (hb2.mono HB1.out.size))
          clear hb2 c3j c4j
          go_wp2_with fail
          refine (line_walk _ _).mono ?_
          rintro e w2' ⟨rfl, rfl⟩
          rw [show (⟨(wOf Φ zs j).toArray⟩ : ByteArray).toList = wOf Φ zs j from toBl _]
          cases hq : lineB (wOf Φ zs j) with
          | true =>
            have He := Lib.hid (show stepF (wOf Φ zs) zs.length i = -1 by rw [HS2.out, hq]; rfl)
            clear HS2 hq
            go_wp2_with fail
            go_ret
            exact ⟨by rw [He.out]; first | done | rfl, HB.out.trans (HB2.out.mono HB.out.size)⟩
          | false =>
            have He := Lib.hid (show stepF (wOf Φ zs) zs.length i = j by rw [HS2.out, hq]; rfl)
            clear HS2 hq
            go_wp2_with fail
            go_ret
            exact ⟨by rw [He.out]; first | done | rfl, HB.out.trans (HB2.out.mono HB.out.size)⟩
set_option maxRecDepth 100000 in
set_option maxHeartbeats 3200000 in
theorem middle_walk {w : World} (F A B X : ByteArray) (sv mv : Value) (S M : Sp.Str → Bool) (hs : FnIs w sv S) (hm : FnIs w mv M) :
    Calls Tryz.prog 117 #[.agg #[.string F, .string A, .string B, .string X], sv, mv] w fun e w' => e = .returned (.bool (middleB S M F.toList A.toList B.toList X.toList)) ∧ Below w.heap.size w w' := by
  have hb0 := alloc_below w (Obj.cells #[.string F, .string A, .string B, .string X] 93)
  have hr := (cells_of_row (row_new w (Obj.cells #[.string F, .string A, .string B, .string X] 93))).1
  have c0 := hr 0
  have c1 := hr 1
  have c2 := hr 2
  have c3 := hr 3
  have HB0 := Lib.hid hb0
  have hs0 := hs.below hb0
  have hm0 := hm.below hb0
  obtain ⟨W0, hW0⟩ : ∃ W0, W0 = w.alloc (Obj.cells #[.string F, .string A, .string B, .string X] 93) := ⟨_, rfl⟩
  have hWs : W0.heap.size = w.heap.size + 1 := by rw [hW0, size_new]
  rw [← hW0] at c0 c1 c2 c3 HB0 hs0 hm0
  obtain ⟨sf, scap, rfl, hgs, hS⟩ := hs0
  obtain ⟨mf, mcap, rfl, hgm, hM⟩ := hm0
  have HS := Lib.hid hS
  have HM := Lib.hid hM
  have HBA := Lib.hid (Below.refl W0.heap.size W0)
  have C0 := Lib.hid c0
  have C1 := Lib.hid c1
  have C2 := Lib.hid c2
  have C3 := Lib.hid c3
  clear hr hb0 hs hm hS hM hWs
  go_enter Tryz.func117, Tryz.ntmps117
  go_wp2_with fail
  rw [← hW0]
  clear hW0
  refine (HS.out A _ HBA.out).mono ?_
  rintro e w_ ⟨rfl, hb_⟩
  have HB1 := Lib.hid (HBA.out.trans (hb_.mono HBA.out.size))
  clear hb_ c0 c1 c2 c3
  have c0 := cell_later HB1.out C0.out
  have c1 := cell_later HB1.out C1.out
  have c2 := cell_later HB1.out C2.out
  have c3 := cell_later HB1.out C3.out
  cases hA : S A.toList with
  | true =>
    go_wp2_with fail
    refine (HM.out B _ HB1.out).mono ?_
    rintro e w_ ⟨rfl, hb_⟩
    have HB2 := Lib.hid (HB1.out.trans (hb_.mono HB1.out.size))
    clear hb_ c0 c1 c2 c3
    have c0 := cell_later HB2.out C0.out
    have c1 := cell_later HB2.out C1.out
    have c2 := cell_later HB2.out C2.out
    have c3 := cell_later HB2.out C3.out
    cases hBm : M B.toList with
    | true =>
      go_wp2_with fail
      refine (HS.out X _ HB2.out).mono ?_
      rintro e w_ ⟨rfl, hb_⟩
      have HB3 := Lib.hid (HB2.out.trans (hb_.mono HB2.out.size))
      clear hb_ c0 c1 c2 c3
      have c0 := cell_later HB3.out C0.out
      have c1 := cell_later HB3.out C1.out
      have c2 := cell_later HB3.out C2.out
      have c3 := cell_later HB3.out C3.out
      cases hX : S X.toList with
      | true =>
        go_wp2_with fail
        go_ret
        exact ⟨by unfold middleB; rw [hA, hBm, hX]; first | done | rfl, HB0.out.trans (HB3.out.mono HB0.out.size)⟩
      | false =>
        go_wp2_with fail
        refine (HS.out F _ HB3.out).mono ?_
        rintro e w_ ⟨rfl, hb_⟩
        have HBF := Lib.hid (HB3.out.trans (hb_.mono HB3.out.size))
        clear hb_ c0 c1 c2 c3
        have c0 := cell_later HBF.out C0.out
        have c1 := cell_later HBF.out C1.out
        have c2 := cell_later HBF.out C2.out
        have c3 := cell_later HBF.out C3.out
        cases kF : S F.toList with
        | true =>
          go_wp2_with fail
          refine (HM.out A _ HBF.out).mono ?_
          rintro e w_ ⟨rfl, hb_⟩
          have HBG := Lib.hid (HBF.out.trans (hb_.mono HBF.out.size))
          clear hb_ c0 c1 c2 c3
          have c0 := cell_later HBG.out C0.out
          have c1 := cell_later HBG.out C1.out
          have c2 := cell_later HBG.out C2.out
          have c3 := cell_later HBG.out C3.out
          cases kA : M A.toList with
          | true =>
            go_wp2_with fail
            refine (HS.out B _ HBG.out).mono ?_
            rintro e w_ ⟨rfl, hb_⟩
            have HBH := Lib.hid (HBG.out.trans (hb_.mono HBG.out.size))
            clear hb_ c0 c1 c2 c3
            have c0 := cell_later HBH.out C0.out
            have c1 := cell_later HBH.out C1.out
            have c2 := cell_later HBH.out C2.out
            have c3 := cell_later HBH.out C3.out
            cases kB : S B.toList with
            | true =>
              go_wp2_with fail
              go_ret
              exact ⟨by unfold middleB; rw [hA, hBm, hX, kF, kA, kB]; first | done | rfl, HB0.out.trans (HBH.out.mono HB0.out.size)⟩
            | false =>
              go_wp2_with fail
              go_ret
              exact ⟨by unfold middleB; rw [hA, hBm, hX, kF, kA, kB]; first | done | rfl, HB0.out.trans (HBH.out.mono HB0.out.size)⟩
          | false =>
            go_wp2_with fail
            go_ret
            exact ⟨by unfold middleB; rw [hA, hBm, hX, kF, kA]; first | done | rfl, HB0.out.trans (HBG.out.mono HB0.out.size)⟩
        | false =>
          go_wp2_with fail
          go_ret
          exact ⟨by unfold middleB; rw [hA, hBm, hX, kF]; first | done | rfl, HB0.out.trans (HBF.out.mono HB0.out.size)⟩
    | false =>
      go_wp2_with fail
      refine (HS.out F _ HB2.out).mono ?_
      rintro e w_ ⟨rfl, hb_⟩
      have HBF := Lib.hid (HB2.out.trans (hb_.mono HB2.out.size))
      clear hb_ c0 c1 c2 c3
      have c0 := cell_later HBF.out C0.out
      have c1 := cell_later HBF.out C1.out
      have c2 := cell_later HBF.out C2.out
      have c3 := cell_later HBF.out C3.out
      cases kF : S F.toList with
      | true =>
        go_wp2_with fail
        refine (HM.out A _ HBF.out).mono ?_
        rintro e w_ ⟨rfl, hb_⟩
        have HBG := Lib.hid (HBF.out.trans (hb_.mono HBF.out.size))
        clear hb_ c0 c1 c2 c3
        have c0 := cell_later HBG.out C0.out
        have c1 := cell_later HBG.out C1.out
        have c2 := cell_later HBG.out C2.out
        have c3 := cell_later HBG.out C3.out
        cases kA : M A.toList with
        | true =>
          go_wp2_with fail
          refine (HS.out B _ HBG.out).mono ?_
          rintro e w_ ⟨rfl, hb_⟩
          have HBH := Lib.hid (HBG.out.trans (hb_.mono HBG.out.size))
          clear hb_ c0 c1 c2 c3
          have c0 := cell_later HBH.out C0.out
          have c1 := cell_later HBH.out C1.out
          have c2 := cell_later HBH.out C2.out
          have c3 := cell_later HBH.out C3.out
          cases kB : S B.toList with
          | true =>
            go_wp2_with fail
            go_ret
            exact ⟨by unfold middleB; rw [hA, hBm, kF, kA, kB]; first | done | rfl, HB0.out.trans (HBH.out.mono HB0.out.size)⟩
          | false =>
            go_wp2_with fail
            go_ret
            exact ⟨by unfold middleB; rw [hA, hBm, kF, kA, kB]; first | done | rfl, HB0.out.trans (HBH.out.mono HB0.out.size)⟩
        | false =>
          go_wp2_with fail
          go_ret
          exact ⟨by unfold middleB; rw [hA, hBm, kF, kA]; first | done | rfl, HB0.out.trans (HBG.out.mono HB0.out.size)⟩
      | false =>
        go_wp2_with fail
        go_ret
        exact ⟨by unfold middleB; rw [hA, hBm, kF]; first | done | rfl, HB0.out.trans (HBF.out.mono HB0.out.size)⟩
  | false =>
    go_wp2_with fail
    refine (HS.out F _ HB1.out).mono ?_
    rintro e w_ ⟨rfl, hb_⟩
    have HBF := Lib.hid (HB1.out.trans (hb_.mono HB1.out.size))
    clear hb_ c0 c1 c2 c3
    have c0 := cell_later HBF.out C0.out
    have c1 := cell_later HBF.out C1.out
    have c2 := cell_later HBF.out C2.out
    have c3 := cell_later HBF.out C3.out
    cases kF : S F.toList with
    | true =>
      go_wp2_with fail
      refine (HM.out A _ HBF.out).mono ?_
      rintro e w_ ⟨rfl, hb_⟩
      have HBG := Lib.hid (HBF.out.trans (hb_.mono HBF.out.size))
      clear hb_ c0 c1 c2 c3
      have c0 := cell_later HBG.out C0.out
      have c1 := cell_later HBG.out C1.out
      have c2 := cell_later HBG.out C2.out
      have c3 := cell_later HBG.out C3.out
      cases kA : M A.toList with
      | true =>
        go_wp2_with fail
        refine (HS.out B _ HBG.out).mono ?_
        rintro e w_ ⟨rfl, hb_⟩
        have HBH := Lib.hid (HBG.out.trans (hb_.mono HBG.out.size))
        clear hb_ c0 c1 c2 c3
        have c0 := cell_later HBH.out C0.out
        have c1 := cell_later HBH.out C1.out
        have c2 := cell_later HBH.out C2.out
        have c3 := cell_later HBH.out C3.out
        cases kB : S B.toList with
        | true =>
          go_wp2_with fail
          go_ret
          exact ⟨by unfold middleB; rw [hA, kF, kA, kB]; first | done | rfl, HB0.out.trans (HBH.out.mono HB0.out.size)⟩
        | false =>
          go_wp2_with fail
          go_ret
          exact ⟨by unfold middleB; rw [hA, kF, kA, kB]; first | done | rfl, HB0.out.trans (HBH.out.mono HB0.out.size)⟩
      | false =>
        go_wp2_with fail
        go_ret
        exact ⟨by unfold middleB; rw [hA, kF, kA]; first | done | rfl, HB0.out.trans (HBG.out.mono HB0.out.size)⟩
    | false =>
      go_wp2_with fail
      go_ret
      exact ⟨by unfold middleB; rw [hA, kF]; first | done | rfl, HB0.out.trans (HBF.out.mono HB0.out.size)⟩
abbrev dsJ7 : List (Option Tmp) := [some 27, some 28, some 29, some 30, some 31, some 32, some 26]
abbrev needsJ7 : List (Nat × Nat) := [(3, 2), (4, 1), (4, 3), (5, 0), (5, 4), (6, 5)]
abbrev opsJ7 : List Op := [.load 93 (.tmp 1), .move (.tmp 4), .move (.tmp 3), .call { callee := .value (.tmp 29), args := #[(.const (.string ⟨#[77, 105, 100, 76, 101, 116, 116, 101, 114]⟩))], argTypes := #[9] }, .call { callee := .value (.tmp 28), args := #[.tmp 30, (.func 118)], argTypes := #[90, 90] }, .call { callee := .value (.func 117), args := #[.tmp 27, (.func 116), .tmp 31], argTypes := #[93, 90, 90] }, .assign (.tmp 32)]
abbrev gsJ7 : List (Option (Nat × Bool)) := [none, none, none, none, none, none, none]
def relJ7 (b : Nat) (F A B X : ByteArray) : Nat → Value → World → Prop := fun kx vx W => match kx with
  | 0 => vx = .agg #[.string F, .string A, .string B, .string X]
  | 1 => vx = .func (.func 114) #[] #[]
  | 2 => vx = .func (.func 112) #[] #[]
  | 3 => FnIs W vx (fun s => s == [77, 105, 100, 76, 101, 116, 116, 101, 114])
  | 4 => FnIs W vx (fun s => s == [77, 105, 100, 76, 101, 116, 116, 101, 114] || quoteB s)
  | 5 => vx = .bool (middleB letterB (fun s => s == [77, 105, 100, 76, 101, 116, 116, 101, 114] || quoteB s) F.toList A.toList B.toList X.toList)
  | 6 => vx = .bool (middleB letterB (fun s => s == [77, 105, 100, 76, 101, 116, 116, 101, 114] || quoteB s) F.toList A.toList B.toList X.toList)
  | _ => True
set_option maxHeartbeats 1600000 in
theorem regionJ7 (a : Act) (ops : Array Oper) (rid : Nat) (Q : Exit → Act → World → Prop) (w : World) (b : Nat) (F A B X : ByteArray) (hops : ops.toList.map (·.op) = opsJ7) (hgs : ops.toList.map (·.guard) = gsJ7) (hok : dagOkG ops dsJ7 = true) (hnd : needsOk2 ops needsJ7 = true) (hsz : 33 ≤ a.tmps.size)
    (h1 : a.tmps.getD 1 undef = .pointer (some ⟨b, 0, none⟩))
    (h3 : a.tmps.getD 3 undef = .func (.func 112) #[] #[])
    (h4 : a.tmps.getD 4 undef = .func (.func 114) #[] #[])
    (c0 : w.cell? ⟨b, 0, none⟩ = some (.string F)) (c1 : w.cell? ⟨b, 1, none⟩ = some (.string A)) (c2 : w.cell? ⟨b, 2, none⟩ = some (.string B)) (c3 : w.cell? ⟨b, 3, none⟩ = some (.string X))
    (hend : ∀ vs W, (fun W => Below w.heap.size w W) W → (∀ j, j < 7 → relJ7 b F A B X j (vs j) W) → Q .normal { a with tmps := frS (fun j => decide (j < 7)) vs 0 dsJ7 a.tmps } W) :
    (Code.region rid ops true).wp Tryz.prog Q a w := by
  have hlen : ops.size = 7 := by have := congrArg List.length hops; simpa using this
  have hop : ∀ (i : Nat) (o : Oper), ops[i]? = some o → ∀ x, opsJ7[i]? = some x → o.op = x := by
    intro i o ho x hx
    rw [← hops, List.getElem?_map, Array.getElem?_toList, ho] at hx
    simpa using hx
  have hgu : ∀ (i : Nat) (o : Oper), ops[i]? = some o → ∀ x, gsJ7[i]? = some x → o.guard = x := by
    intro i o ho x hx
    rw [← hgs, List.getElem?_map, Array.getElem?_toList, ho] at hx
    simpa using hx
  rw [← hlen] at hend
  refine wp_region_rel (by kernel_rfl) dsJ7 hok (fun t ht => Nat.lt_of_lt_of_le (of_decide_eq_true (List.all_eq_true.1 (show dsJ7.all (fun d => match d with | some t => decide (t < 33) | none => true) = true from rfl) _ ht)) hsz) (relJ7 b F A B X) (fun W => Below w.heap.size w W) ?_ ?_ ?_ hend
  · intro i v W W' h hb
    unfold relJ7 at h ⊢
    split at h
    · exact h
    · exact h
    · exact h
    · exact h.below hb
    · exact h.below hb
    · exact h
    · exact h
    · exact h
  · exact ⟨rfl, rfl, rfl, Nat.le_refl _, fun _ _ => rfl⟩
  intro kx o ho ρ W hb hρ hold hold2 hcon hfun _
  have hkx : kx < 7 := by rw [← hlen]; exact (Array.getElem?_eq_some_iff.1 ho).1
  have e1 : ρ (.tmp 1) = .pointer (some ⟨b, 0, none⟩) := (hold 1 (by decide)).trans h1
  have e3 : ρ (.tmp 3) = .func (.func 112) #[] #[] := (hold 3 (by decide)).trans h3
  have e4 : ρ (.tmp 4) = .func (.func 114) #[] #[] := (hold 4 (by decide)).trans h4
  match kx, hkx with
  | 0, _ =>
    have hg := hgu 0 o ho _ rfl
    have ho' := hop 0 o ho _ rfl
    simp only [hg]
    exact .inl ⟨_, rfl, .inl (by unfold execOp; rw [ho']; have q0 := cell_later hb c0; have q1 := cell_later hb c1; have q2 := cell_later hb c2; have q3 := cell_later hb c3; go_simp)⟩
  | 1, _ =>
    have hg := hgu 1 o ho _ rfl
    have ho' := hop 1 o ho _ rfl
    simp only [hg]
    exact .inl ⟨_, rfl, .inl (by unfold execOp; rw [ho']; go_simp)⟩
  | 2, _ =>
    have hg := hgu 2 o ho _ rfl
    have ho' := hop 2 o ho _ rfl
    simp only [hg]
    exact .inl ⟨_, rfl, .inl (by unfold execOp; rw [ho']; go_simp)⟩
  | 3, _ =>
    have hg := hgu 3 o ho _ rfl
    have ho' := hop 3 o ho _ rfl
    simp only [hg]
    have q29 : ρ (.tmp 29) = .func (.func 112) #[] #[] := hρ 2 (needs2_get hnd 3 2 (by decide)) 29 rfl
    refine .inr (.inr ⟨112, #[.string ⟨#[77, 105, 100, 76, 101, 116, 116, 101, 114]⟩], ?_, ?_⟩)
    · unfold execOp
      rw [ho']
      simp [go_sem, hfun, hcon, q29, resolve, Act.eval]
    · refine (is_walk _ W).mono ?_
      rintro e W' ⟨v, rfl, hv, hb'⟩
      exact ⟨v, rfl, hb.trans (hb'.mono hb.size), hb', hv⟩
  | 4, _ =>
    have hg := hgu 4 o ho _ rfl
    have ho' := hop 4 o ho _ rfl
    simp only [hg]
    have q28 : ρ (.tmp 28) = .func (.func 114) #[] #[] := hρ 1 (needs2_get hnd 4 1 (by decide)) 28 rfl
    have q30 : FnIs W (ρ (.tmp 30)) (fun s => s == [77, 105, 100, 76, 101, 116, 116, 101, 114]) := hρ 3 (needs2_get hnd 4 3 (by decide)) 30 rfl
    obtain ⟨f30, cap30, ef30, _, hf30⟩ := id q30
    refine .inr (.inr ⟨114, #[.func (.func f30) #[] cap30, .func (.func 118) #[] #[]], ?_, ?_⟩)
    · unfold execOp
      rw [ho']
      simp [go_sem, hfun, hcon, q28, ef30, resolve, Act.eval]
    · refine (or2_walk _ _ _ _ W (by rw [← ef30]; exact q30) (fn_quote W)).mono ?_
      rintro e W' ⟨v, rfl, hv, hb'⟩
      exact ⟨v, rfl, hb.trans (hb'.mono hb.size), hb', hv⟩
  | 5, _ =>
    have hg := hgu 5 o ho _ rfl
    have ho' := hop 5 o ho _ rfl
    simp only [hg]
    have q27 : ρ (.tmp 27) = .agg #[.string F, .string A, .string B, .string X] := hρ 0 (needs2_get hnd 5 0 (by decide)) 27 rfl
    have q31 : FnIs W (ρ (.tmp 31)) (fun s => s == [77, 105, 100, 76, 101, 116, 116, 101, 114] || quoteB s) := hρ 4 (needs2_get hnd 5 4 (by decide)) 31 rfl
    obtain ⟨f31, cap31, ef31, _, hf31⟩ := id q31
    refine .inr (.inr ⟨117, #[.agg #[.string F, .string A, .string B, .string X], .func (.func 116) #[] #[], .func (.func f31) #[] cap31], ?_, ?_⟩)
    · unfold execOp
      rw [ho']
      simp [go_sem, hfun, hcon, q27, ef31, resolve, Act.eval]
    · refine (middle_walk F A B X _ _ _ _ (fn_letter W) (by rw [← ef31]; exact q31)).mono ?_
      rintro e W' ⟨rfl, hb'⟩
      exact ⟨_, rfl, hb.trans (hb'.mono hb.size), hb', rfl⟩
  | 6, _ =>
    have hg := hgu 6 o ho _ rfl
    have ho' := hop 6 o ho _ rfl
    simp only [hg]
    have q32 : ρ (.tmp 32) = .bool (middleB letterB (fun s => s == [77, 105, 100, 76, 101, 116, 116, 101, 114] || quoteB s) F.toList A.toList B.toList X.toList) := hρ 5 (needs2_get hnd 6 5 (by decide)) 32 rfl
    exact .inl ⟨_, rfl, .inl (by unfold execOp; rw [ho']; go_simp)⟩
abbrev dsJ10 : List (Option Tmp) := [some 42, some 43, some 44, some 45, some 46, some 33]
abbrev needsJ10 : List (Nat × Nat) := [(3, 2), (4, 0), (4, 1), (4, 3), (5, 4)]
abbrev opsJ10 : List Op := [.load 93 (.tmp 1), .move (.tmp 6), .move (.tmp 3), .call { callee := .value (.tmp 44), args := #[(.const (.string ⟨#[68, 111, 117, 98, 108, 101, 81, 117, 111, 116, 101]⟩))], argTypes := #[9] }, .call { callee := .value (.func 117), args := #[.tmp 42, .tmp 43, .tmp 45], argTypes := #[93, 90, 90] }, .assign (.tmp 46)]
abbrev gsJ10 : List (Option (Nat × Bool)) := [none, none, none, none, none, none]
def relJ10 (b : Nat) (F A B X : ByteArray) (v6 : Value) : Nat → Value → World → Prop := fun kx vx W => match kx with
  | 0 => vx = .agg #[.string F, .string A, .string B, .string X]
  | 1 => FnIs W vx (fun s => s == [72, 101, 98, 114, 101, 119])
  | 2 => vx = .func (.func 112) #[] #[]
  | 3 => FnIs W vx (fun s => s == [68, 111, 117, 98, 108, 101, 81, 117, 111, 116, 101])
  | 4 => vx = .bool (middleB (fun s => s == [72, 101, 98, 114, 101, 119]) (fun s => s == [68, 111, 117, 98, 108, 101, 81, 117, 111, 116, 101]) F.toList A.toList B.toList X.toList)
  | 5 => vx = .bool (middleB (fun s => s == [72, 101, 98, 114, 101, 119]) (fun s => s == [68, 111, 117, 98, 108, 101, 81, 117, 111, 116, 101]) F.toList A.toList B.toList X.toList)
  | _ => True
set_option maxHeartbeats 1600000 in
theorem regionJ10 (a : Act) (ops : Array Oper) (rid : Nat) (Q : Exit → Act → World → Prop) (w : World) (b : Nat) (F A B X : ByteArray) (v6 : Value) (hops : ops.toList.map (·.op) = opsJ10) (hgs : ops.toList.map (·.guard) = gsJ10) (hok : dagOkG ops dsJ10 = true) (hnd : needsOk2 ops needsJ10 = true) (hsz : 47 ≤ a.tmps.size)
    (h1 : a.tmps.getD 1 undef = .pointer (some ⟨b, 0, none⟩))
    (h3 : a.tmps.getD 3 undef = .func (.func 112) #[] #[])
    (h6 : a.tmps.getD 6 undef = v6)
    (c0 : w.cell? ⟨b, 0, none⟩ = some (.string F)) (c1 : w.cell? ⟨b, 1, none⟩ = some (.string A)) (c2 : w.cell? ⟨b, 2, none⟩ = some (.string B)) (c3 : w.cell? ⟨b, 3, none⟩ = some (.string X)) (h6v : FnIs w v6 (fun s => s == [72, 101, 98, 114, 101, 119]))
    (hend : ∀ vs W, (fun W => Below w.heap.size w W) W → (∀ j, j < 6 → relJ10 b F A B X v6 j (vs j) W) → Q .normal { a with tmps := frS (fun j => decide (j < 6)) vs 0 dsJ10 a.tmps } W) :
    (Code.region rid ops true).wp Tryz.prog Q a w := by
  have hlen : ops.size = 6 := by have := congrArg List.length hops; simpa using this
  have hop : ∀ (i : Nat) (o : Oper), ops[i]? = some o → ∀ x, opsJ10[i]? = some x → o.op = x := by
    intro i o ho x hx
    rw [← hops, List.getElem?_map, Array.getElem?_toList, ho] at hx
    simpa using hx
  have hgu : ∀ (i : Nat) (o : Oper), ops[i]? = some o → ∀ x, gsJ10[i]? = some x → o.guard = x := by
    intro i o ho x hx
    rw [← hgs, List.getElem?_map, Array.getElem?_toList, ho] at hx
    simpa using hx
  rw [← hlen] at hend
  refine wp_region_rel (by kernel_rfl) dsJ10 hok (fun t ht => Nat.lt_of_lt_of_le (of_decide_eq_true (List.all_eq_true.1 (show dsJ10.all (fun d => match d with | some t => decide (t < 47) | none => true) = true from rfl) _ ht)) hsz) (relJ10 b F A B X v6) (fun W => Below w.heap.size w W) ?_ ?_ ?_ hend
  · intro i v W W' h hb
    unfold relJ10 at h ⊢
    split at h
    · exact h
    · exact h.below hb
    · exact h
    · exact h.below hb
    · exact h
    · exact h
    · exact h
  · exact ⟨rfl, rfl, rfl, Nat.le_refl _, fun _ _ => rfl⟩
  intro kx o ho ρ W hb hρ hold hold2 hcon hfun _
  have hkx : kx < 6 := by rw [← hlen]; exact (Array.getElem?_eq_some_iff.1 ho).1
  have e1 : ρ (.tmp 1) = .pointer (some ⟨b, 0, none⟩) := (hold 1 (by decide)).trans h1
  have e3 : ρ (.tmp 3) = .func (.func 112) #[] #[] := (hold 3 (by decide)).trans h3
  have e6 : ρ (.tmp 6) = v6 := (hold 6 (by decide)).trans h6
  match kx, hkx with
  | 0, _ =>
    have hg := hgu 0 o ho _ rfl
    have ho' := hop 0 o ho _ rfl
    simp only [hg]
    exact .inl ⟨_, rfl, .inl (by unfold execOp; rw [ho']; have q0 := cell_later hb c0; have q1 := cell_later hb c1; have q2 := cell_later hb c2; have q3 := cell_later hb c3; go_simp)⟩
  | 1, _ =>
    have hg := hgu 1 o ho _ rfl
    have ho' := hop 1 o ho _ rfl
    simp only [hg]
    exact .inl ⟨v6, h6v.below hb, .inl (by unfold execOp; rw [ho']; go_simp)⟩
  | 2, _ =>
    have hg := hgu 2 o ho _ rfl
    have ho' := hop 2 o ho _ rfl
    simp only [hg]
    exact .inl ⟨_, rfl, .inl (by unfold execOp; rw [ho']; go_simp)⟩
  | 3, _ =>
    have hg := hgu 3 o ho _ rfl
    have ho' := hop 3 o ho _ rfl
    simp only [hg]
    have q44 : ρ (.tmp 44) = .func (.func 112) #[] #[] := hρ 2 (needs2_get hnd 3 2 (by decide)) 44 rfl
    refine .inr (.inr ⟨112, #[.string ⟨#[68, 111, 117, 98, 108, 101, 81, 117, 111, 116, 101]⟩], ?_, ?_⟩)
    · unfold execOp
      rw [ho']
      simp [go_sem, hfun, hcon, q44, resolve, Act.eval]
    · refine (is_walk _ W).mono ?_
      rintro e W' ⟨v, rfl, hv, hb'⟩
      exact ⟨v, rfl, hb.trans (hb'.mono hb.size), hb', hv⟩
  | 4, _ =>
    have hg := hgu 4 o ho _ rfl
    have ho' := hop 4 o ho _ rfl
    simp only [hg]
    have q42 : ρ (.tmp 42) = .agg #[.string F, .string A, .string B, .string X] := hρ 0 (needs2_get hnd 4 0 (by decide)) 42 rfl
    have q43 : FnIs W (ρ (.tmp 43)) (fun s => s == [72, 101, 98, 114, 101, 119]) := hρ 1 (needs2_get hnd 4 1 (by decide)) 43 rfl
    have q45 : FnIs W (ρ (.tmp 45)) (fun s => s == [68, 111, 117, 98, 108, 101, 81, 117, 111, 116, 101]) := hρ 3 (needs2_get hnd 4 3 (by decide)) 45 rfl
    obtain ⟨f43, cap43, ef43, _, hf43⟩ := id q43
    obtain ⟨f45, cap45, ef45, _, hf45⟩ := id q45
    refine .inr (.inr ⟨117, #[.agg #[.string F, .string A, .string B, .string X], .func (.func f43) #[] cap43, .func (.func f45) #[] cap45], ?_, ?_⟩)
    · unfold execOp
      rw [ho']
      simp [go_sem, hfun, hcon, q42, ef45, ef43, resolve, Act.eval]
    · refine (middle_walk F A B X _ _ _ _ (by rw [← ef43]; exact q43) (by rw [← ef45]; exact q45)).mono ?_
      rintro e W' ⟨rfl, hb'⟩
      exact ⟨_, rfl, hb.trans (hb'.mono hb.size), hb', rfl⟩
  | 5, _ =>
    have hg := hgu 5 o ho _ rfl
    have ho' := hop 5 o ho _ rfl
    simp only [hg]
    have q46 : ρ (.tmp 46) = .bool (middleB (fun s => s == [72, 101, 98, 114, 101, 119]) (fun s => s == [68, 111, 117, 98, 108, 101, 81, 117, 111, 116, 101]) F.toList A.toList B.toList X.toList) := hρ 4 (needs2_get hnd 5 4 (by decide)) 46 rfl
    exact .inl ⟨_, rfl, .inl (by unfold execOp; rw [ho']; go_simp)⟩
abbrev dsJ12 : List (Option Tmp) := [some 48, some 49, some 50, some 51, some 52, some 53, some 54, some 47]
abbrev needsJ12 : List (Nat × Nat) := [(4, 3), (5, 2), (5, 4), (6, 0), (6, 1), (6, 5), (7, 6)]
abbrev opsJ12 : List Op := [.load 93 (.tmp 1), .move (.tmp 5), .move (.tmp 4), .move (.tmp 3), .call { callee := .value (.tmp 51), args := #[(.const (.string ⟨#[77, 105, 100, 78, 117, 109]⟩))], argTypes := #[9] }, .call { callee := .value (.tmp 50), args := #[.tmp 52, (.func 118)], argTypes := #[90, 90] }, .call { callee := .value (.func 117), args := #[.tmp 48, .tmp 49, .tmp 53], argTypes := #[93, 90, 90] }, .assign (.tmp 54)]
abbrev gsJ12 : List (Option (Nat × Bool)) := [none, none, none, none, none, none, none, none]
def relJ12 (b : Nat) (F A B X : ByteArray) (v5 : Value) : Nat → Value → World → Prop := fun kx vx W => match kx with
  | 0 => vx = .agg #[.string F, .string A, .string B, .string X]
  | 1 => FnIs W vx (fun s => s == [78, 117, 109, 101, 114, 105, 99])
  | 2 => vx = .func (.func 114) #[] #[]
  | 3 => vx = .func (.func 112) #[] #[]
  | 4 => FnIs W vx (fun s => s == [77, 105, 100, 78, 117, 109])
  | 5 => FnIs W vx (fun s => s == [77, 105, 100, 78, 117, 109] || quoteB s)
  | 6 => vx = .bool (middleB (fun s => s == [78, 117, 109, 101, 114, 105, 99]) (fun s => s == [77, 105, 100, 78, 117, 109] || quoteB s) F.toList A.toList B.toList X.toList)
  | 7 => vx = .bool (middleB (fun s => s == [78, 117, 109, 101, 114, 105, 99]) (fun s => s == [77, 105, 100, 78, 117, 109] || quoteB s) F.toList A.toList B.toList X.toList)
  | _ => True
set_option maxHeartbeats 1600000 in
theorem regionJ12 (a : Act) (ops : Array Oper) (rid : Nat) (Q : Exit → Act → World → Prop) (w : World) (b : Nat) (F A B X : ByteArray) (v5 : Value) (hops : ops.toList.map (·.op) = opsJ12) (hgs : ops.toList.map (·.guard) = gsJ12) (hok : dagOkG ops dsJ12 = true) (hnd : needsOk2 ops needsJ12 = true) (hsz : 55 ≤ a.tmps.size)
    (h1 : a.tmps.getD 1 undef = .pointer (some ⟨b, 0, none⟩))
    (h3 : a.tmps.getD 3 undef = .func (.func 112) #[] #[])
    (h4 : a.tmps.getD 4 undef = .func (.func 114) #[] #[])
    (h5 : a.tmps.getD 5 undef = v5)
    (c0 : w.cell? ⟨b, 0, none⟩ = some (.string F)) (c1 : w.cell? ⟨b, 1, none⟩ = some (.string A)) (c2 : w.cell? ⟨b, 2, none⟩ = some (.string B)) (c3 : w.cell? ⟨b, 3, none⟩ = some (.string X)) (h5v : FnIs w v5 (fun s => s == [78, 117, 109, 101, 114, 105, 99]))
    (hend : ∀ vs W, (fun W => Below w.heap.size w W) W → (∀ j, j < 8 → relJ12 b F A B X v5 j (vs j) W) → Q .normal { a with tmps := frS (fun j => decide (j < 8)) vs 0 dsJ12 a.tmps } W) :
    (Code.region rid ops true).wp Tryz.prog Q a w := by
  have hlen : ops.size = 8 := by have := congrArg List.length hops; simpa using this
  have hop : ∀ (i : Nat) (o : Oper), ops[i]? = some o → ∀ x, opsJ12[i]? = some x → o.op = x := by
    intro i o ho x hx
    rw [← hops, List.getElem?_map, Array.getElem?_toList, ho] at hx
    simpa using hx
  have hgu : ∀ (i : Nat) (o : Oper), ops[i]? = some o → ∀ x, gsJ12[i]? = some x → o.guard = x := by
    intro i o ho x hx
    rw [← hgs, List.getElem?_map, Array.getElem?_toList, ho] at hx
    simpa using hx
  rw [← hlen] at hend
  refine wp_region_rel (by kernel_rfl) dsJ12 hok (fun t ht => Nat.lt_of_lt_of_le (of_decide_eq_true (List.all_eq_true.1 (show dsJ12.all (fun d => match d with | some t => decide (t < 55) | none => true) = true from rfl) _ ht)) hsz) (relJ12 b F A B X v5) (fun W => Below w.heap.size w W) ?_ ?_ ?_ hend
  · intro i v W W' h hb
    unfold relJ12 at h ⊢
    split at h
    · exact h
    · exact h.below hb
    · exact h
    · exact h
    · exact h.below hb
    · exact h.below hb
    · exact h
    · exact h
    · exact h
  · exact ⟨rfl, rfl, rfl, Nat.le_refl _, fun _ _ => rfl⟩
  intro kx o ho ρ W hb hρ hold hold2 hcon hfun _
  have hkx : kx < 8 := by rw [← hlen]; exact (Array.getElem?_eq_some_iff.1 ho).1
  have e1 : ρ (.tmp 1) = .pointer (some ⟨b, 0, none⟩) := (hold 1 (by decide)).trans h1
  have e3 : ρ (.tmp 3) = .func (.func 112) #[] #[] := (hold 3 (by decide)).trans h3
  have e4 : ρ (.tmp 4) = .func (.func 114) #[] #[] := (hold 4 (by decide)).trans h4
  have e5 : ρ (.tmp 5) = v5 := (hold 5 (by decide)).trans h5
  match kx, hkx with
  | 0, _ =>
    have hg := hgu 0 o ho _ rfl
    have ho' := hop 0 o ho _ rfl
    simp only [hg]
    exact .inl ⟨_, rfl, .inl (by unfold execOp; rw [ho']; have q0 := cell_later hb c0; have q1 := cell_later hb c1; have q2 := cell_later hb c2; have q3 := cell_later hb c3; go_simp)⟩
  | 1, _ =>
    have hg := hgu 1 o ho _ rfl
    have ho' := hop 1 o ho _ rfl
    simp only [hg]
    exact .inl ⟨v5, h5v.below hb, .inl (by unfold execOp; rw [ho']; go_simp)⟩
  | 2, _ =>
    have hg := hgu 2 o ho _ rfl
    have ho' := hop 2 o ho _ rfl
    simp only [hg]
    exact .inl ⟨_, rfl, .inl (by unfold execOp; rw [ho']; go_simp)⟩
  | 3, _ =>
    have hg := hgu 3 o ho _ rfl
    have ho' := hop 3 o ho _ rfl
    simp only [hg]
    exact .inl ⟨_, rfl, .inl (by unfold execOp; rw [ho']; go_simp)⟩
  | 4, _ =>
    have hg := hgu 4 o ho _ rfl
    have ho' := hop 4 o ho _ rfl
    simp only [hg]
    have q51 : ρ (.tmp 51) = .func (.func 112) #[] #[] := hρ 3 (needs2_get hnd 4 3 (by decide)) 51 rfl
    refine .inr (.inr ⟨112, #[.string ⟨#[77, 105, 100, 78, 117, 109]⟩], ?_, ?_⟩)
    · unfold execOp
      rw [ho']
      simp [go_sem, hfun, hcon, q51, resolve, Act.eval]
    · refine (is_walk _ W).mono ?_
      rintro e W' ⟨v, rfl, hv, hb'⟩
      exact ⟨v, rfl, hb.trans (hb'.mono hb.size), hb', hv⟩
  | 5, _ =>
    have hg := hgu 5 o ho _ rfl
    have ho' := hop 5 o ho _ rfl
    simp only [hg]
    have q50 : ρ (.tmp 50) = .func (.func 114) #[] #[] := hρ 2 (needs2_get hnd 5 2 (by decide)) 50 rfl
    have q52 : FnIs W (ρ (.tmp 52)) (fun s => s == [77, 105, 100, 78, 117, 109]) := hρ 4 (needs2_get hnd 5 4 (by decide)) 52 rfl
    obtain ⟨f52, cap52, ef52, _, hf52⟩ := id q52
    refine .inr (.inr ⟨114, #[.func (.func f52) #[] cap52, .func (.func 118) #[] #[]], ?_, ?_⟩)
    · unfold execOp
      rw [ho']
      simp [go_sem, hfun, hcon, q50, ef52, resolve, Act.eval]
    · refine (or2_walk _ _ _ _ W (by rw [← ef52]; exact q52) (fn_quote W)).mono ?_
      rintro e W' ⟨v, rfl, hv, hb'⟩
      exact ⟨v, rfl, hb.trans (hb'.mono hb.size), hb', hv⟩
  | 6, _ =>
    have hg := hgu 6 o ho _ rfl
    have ho' := hop 6 o ho _ rfl
    simp only [hg]
    have q48 : ρ (.tmp 48) = .agg #[.string F, .string A, .string B, .string X] := hρ 0 (needs2_get hnd 6 0 (by decide)) 48 rfl
    have q49 : FnIs W (ρ (.tmp 49)) (fun s => s == [78, 117, 109, 101, 114, 105, 99]) := hρ 1 (needs2_get hnd 6 1 (by decide)) 49 rfl
    have q53 : FnIs W (ρ (.tmp 53)) (fun s => s == [77, 105, 100, 78, 117, 109] || quoteB s) := hρ 5 (needs2_get hnd 6 5 (by decide)) 53 rfl
    obtain ⟨f49, cap49, ef49, _, hf49⟩ := id q49
    obtain ⟨f53, cap53, ef53, _, hf53⟩ := id q53
    refine .inr (.inr ⟨117, #[.agg #[.string F, .string A, .string B, .string X], .func (.func f49) #[] cap49, .func (.func f53) #[] cap53], ?_, ?_⟩)
    · unfold execOp
      rw [ho']
      simp [go_sem, hfun, hcon, q48, ef53, ef49, resolve, Act.eval]
    · refine (middle_walk F A B X _ _ _ _ (by rw [← ef49]; exact q49) (by rw [← ef53]; exact q53)).mono ?_
      rintro e W' ⟨rfl, hb'⟩
      exact ⟨_, rfl, hb.trans (hb'.mono hb.size), hb', rfl⟩
  | 7, _ =>
    have hg := hgu 7 o ho _ rfl
    have ho' := hop 7 o ho _ rfl
    simp only [hg]
    have q54 : ρ (.tmp 54) = .bool (middleB (fun s => s == [78, 117, 109, 101, 114, 105, 99]) (fun s => s == [77, 105, 100, 78, 117, 109] || quoteB s) F.toList A.toList B.toList X.toList) := hρ 6 (needs2_get hnd 7 6 (by decide)) 54 rfl
    exact .inl ⟨_, rfl, .inl (by unfold execOp; rw [ho']; go_simp)⟩
set_option maxRecDepth 100000 in
set_option maxHeartbeats 6400000 in
theorem joined_walk {w : World} (F A B X : ByteArray) :
    Calls Tryz.prog 75 #[.agg #[.string F, .string A, .string B, .string X]] w fun e w' => e = .returned (.bool (joinedB F.toList A.toList B.toList X.toList)) ∧ Below w.heap.size w w' := by
  have hb0 := alloc_below w (Obj.cells #[.string F, .string A, .string B, .string X] 93)
  have hr := (cells_of_row (row_new w (Obj.cells #[.string F, .string A, .string B, .string X] 93))).1
  have c0 := hr 0
  have c1 := hr 1
  have c2 := hr 2
  have c3 := hr 3
  have HB0 := Lib.hid hb0
  obtain ⟨W0, hW0⟩ : ∃ W0, W0 = w.alloc (Obj.cells #[.string F, .string A, .string B, .string X] 93) := ⟨_, rfl⟩
  rw [← hW0] at c0 c1 c2 c3 HB0
  have C0 := Lib.hid c0
  have C1 := Lib.hid c1
  have C2 := Lib.hid c2
  have C3 := Lib.hid c3
  clear hr hb0 c0 c1 c2 c3
  go_enter Tryz.func75, Tryz.ntmps75
  go_wp2_with fail
  rw [← hW0]
  clear hW0
  refine (is_walk [78, 117, 109, 101, 114, 105, 99] _).mono ?_
  rintro e w1 ⟨v5, rfl, h5, hb1⟩
  have HB1 := Lib.hid hb1
  have H5 := Lib.hid h5
  clear hb1 h5
  go_wp2_with fail
  refine (is_walk [72, 101, 98, 114, 101, 119] _).mono ?_
  rintro e w2 ⟨v6, rfl, h6, hb2⟩
  have HB2 := Lib.hid (HB1.out.trans (hb2.mono HB1.out.size))
  have H6 := Lib.hid h6
  replace H5 := Lib.hid (H5.out.below hb2)
  clear hb2 h6 HB1
  go_wp2_with fail
  refine (or2_walk _ _ letterB (fun s => s == [78, 117, 109, 101, 114, 105, 99]) _ (fn_letter _) H5.out).mono ?_
  rintro e w3 ⟨v7, rfl, h7, hb3⟩
  have HB3 := Lib.hid (HB2.out.trans (hb3.mono HB2.out.size))
  replace H5 := Lib.hid (H5.out.below hb3)
  replace H6 := Lib.hid (H6.out.below hb3)
  obtain ⟨f7, cap7, rfl, hg7, hf7⟩ := h7
  have H7 := Lib.hid (show ∀ (s : ByteArray) (W : World), Below w3.heap.size w3 W → Calls Tryz.prog f7 (#[.string s] ++ cap7) W fun e W' => e = .returned (.bool (wordB s.toList)) ∧ Below W.heap.size W W' from hf7)
  have HI := Lib.hid (Below.refl w3.heap.size w3)
  have HBc := HB3
  clear hb3 hf7 HB2
  go_upto_region 5 with fail
  go_cut [15] (fun c wx => c = .bool (wordB A.toList && wordB B.toList) ∧ Below w3.heap.size w3 wx)
  case first =>
    have c0 := cell_later HBc.out C0.out
    have c1 := cell_later HBc.out C1.out
    have c2 := cell_later HBc.out C2.out
    have c3 := cell_later HBc.out C3.out
    go_wp2_with fail
    refine (H7.out A _ HI.out).mono ?_
    rintro e w_ ⟨rfl, hb_⟩
    replace HI := Lib.hid (HI.out.trans (hb_.mono HI.out.size))
    have HBc := Lib.hid (HB3.out.trans (HI.out.mono HB3.out.size))
    clear hb_ c0 c1 c2 c3
    have c0 := cell_later HBc.out C0.out
    have c1 := cell_later HBc.out C1.out
    have c2 := cell_later HBc.out C2.out
    have c3 := cell_later HBc.out C3.out
    cases k1 : wordB A.toList; rotate_left
    · go_wp2_with fail
      refine (H7.out B _ HI.out).mono ?_
      rintro e w_ ⟨rfl, hb_⟩
      replace HI := Lib.hid (HI.out.trans (hb_.mono HI.out.size))
      have HBc := Lib.hid (HB3.out.trans (HI.out.mono HB3.out.size))
      clear hb_ c0 c1 c2 c3
      have c0 := cell_later HBc.out C0.out
      have c1 := cell_later HBc.out C1.out
      have c2 := cell_later HBc.out C2.out
      have c3 := cell_later HBc.out C3.out
      cases k2 : wordB B.toList
      · go_wp2_with fail
        go_meet
        case rel => exact ⟨by rw [k1, k2]; rfl, HI.out⟩
      · go_wp2_with fail
        go_meet
        case rel => exact ⟨by rw [k1, k2]; rfl, HI.out⟩
    · go_wp2_with fail
      go_meet
      case rel => exact ⟨by rw [k1]; rfl, HI.out⟩
  case rest =>
  obtain ⟨rfl, hb_⟩ := hcut
  replace HI := Lib.hid hb_
  replace HBc := Lib.hid (HB3.out.trans (HI.out.mono HB3.out.size))
  clear hb_
  obtain ⟨x, K1⟩ : ∃ x, Hid (x = (wordB A.toList && wordB B.toList)) := ⟨_, rfl⟩
  rw [← K1.out]
  cases x; rotate_left
  · go_wp2_with fail
    go_ret
    exact ⟨by unfold joinedB; rw [← K1.out]; rfl, HB0.out.trans (HBc.out.mono HB0.out.size)⟩
  go_upto_region 7 with fail
  go_cut [26] (fun c wx => c = .bool (middleB letterB (fun s => s == [77, 105, 100, 76, 101, 116, 116, 101, 114] || quoteB s) F.toList A.toList B.toList X.toList) ∧ Below w3.heap.size w3 wx)
  case first =>
    have c0 := cell_later HBc.out C0.out
    have c1 := cell_later HBc.out C1.out
    have c2 := cell_later HBc.out C2.out
    have c3 := cell_later HBc.out C3.out
    refine regionJ7 _ _ _ _ _ w.heap.size F A B X  rfl rfl (by kernel_rfl) (by kernel_rfl) (by first | simp | exact Nat.le_refl _ | decide) rfl rfl rfl c0 c1 c2 c3  ?_
    intro V W_ hb_ hV
    have hVn : V 6 = .bool (middleB letterB (fun s => s == [77, 105, 100, 76, 101, 116, 116, 101, 114] || quoteB s) F.toList A.toList B.toList X.toList) := hV 6 (by decide)
    simp [frS, stepS, Exit.then]
    rw [hVn]
    clear hV hVn
    go_wp2_with fail
    go_meet
    case rel => exact ⟨rfl, HI.out.trans (hb_.mono HI.out.size)⟩
  case rest =>
  obtain ⟨rfl, hb_⟩ := hcut
  replace HI := Lib.hid hb_
  replace HBc := Lib.hid (HB3.out.trans (HI.out.mono HB3.out.size))
  clear hb_
  obtain ⟨x, K2⟩ : ∃ x, Hid (x = (middleB letterB (fun s => s == [77, 105, 100, 76, 101, 116, 116, 101, 114] || quoteB s) F.toList A.toList B.toList X.toList)) := ⟨_, rfl⟩
  rw [← K2.out]
  cases x; rotate_left
  · go_wp2_with fail
    go_ret
    exact ⟨by unfold joinedB; rw [← K1.out, ← K2.out]; rfl, HB0.out.trans (HBc.out.mono HB0.out.size)⟩
  go_upto_region 9 with fail
  go_cut [33] (fun c wx => c = .bool (A.toList == [72, 101, 98, 114, 101, 119] && B.toList == [83, 105, 110, 103, 108, 101, 81, 117, 111, 116, 101]) ∧ Below w3.heap.size w3 wx)
  case first =>
    have c0 := cell_later HBc.out C0.out
    have c1 := cell_later HBc.out C1.out
    have c2 := cell_later HBc.out C2.out
    have c3 := cell_later HBc.out C3.out
    cases k1 : (A.toList == [72, 101, 98, 114, 101, 119])
    · go_wp2_with fail
      go_meet
      case rel => exact ⟨by rw [k1]; rfl, HI.out⟩
    · cases k2 : (B.toList == [83, 105, 110, 103, 108, 101, 81, 117, 111, 116, 101])
      · go_wp2_with fail
        go_meet
        case rel => exact ⟨by rw [k1, k2]; rfl, HI.out⟩
      · go_wp2_with fail
        go_meet
        case rel => exact ⟨by rw [k1, k2]; rfl, HI.out⟩
  case rest =>
  obtain ⟨rfl, hb_⟩ := hcut
  replace HI := Lib.hid hb_
  replace HBc := Lib.hid (HB3.out.trans (HI.out.mono HB3.out.size))
  clear hb_
  obtain ⟨x, K3⟩ : ∃ x, Hid (x = (A.toList == [72, 101, 98, 114, 101, 119] && B.toList == [83, 105, 110, 103, 108, 101, 81, 117, 111, 116, 101])) := ⟨_, rfl⟩
  rw [← K3.out]
  cases x; rotate_left
  · go_wp2_with fail
    go_ret
    exact ⟨by unfold joinedB; rw [← K1.out, ← K2.out, ← K3.out]; rfl, HB0.out.trans (HBc.out.mono HB0.out.size)⟩
  go_upto_region 10 with fail
  go_cut [33] (fun c wx => c = .bool (middleB (fun s => s == [72, 101, 98, 114, 101, 119]) (fun s => s == [68, 111, 117, 98, 108, 101, 81, 117, 111, 116, 101]) F.toList A.toList B.toList X.toList) ∧ Below w3.heap.size w3 wx)
  case first =>
    have c0 := cell_later HBc.out C0.out
    have c1 := cell_later HBc.out C1.out
    have c2 := cell_later HBc.out C2.out
    have c3 := cell_later HBc.out C3.out
    refine regionJ10 _ _ _ _ _ w.heap.size F A B X v6 rfl rfl (by kernel_rfl) (by kernel_rfl) (by first | simp | exact Nat.le_refl _ | decide) rfl rfl rfl c0 c1 c2 c3 (H6.out.below HI.out) ?_
    intro V W_ hb_ hV
    have hVn : V 5 = .bool (middleB (fun s => s == [72, 101, 98, 114, 101, 119]) (fun s => s == [68, 111, 117, 98, 108, 101, 81, 117, 111, 116, 101]) F.toList A.toList B.toList X.toList) := hV 5 (by decide)
    simp [frS, stepS, Exit.then]
    rw [hVn]
    clear hV hVn
    go_wp2_with fail
    go_meet
    case rel => exact ⟨rfl, HI.out.trans (hb_.mono HI.out.size)⟩
  case rest =>
  obtain ⟨rfl, hb_⟩ := hcut
  replace HI := Lib.hid hb_
  replace HBc := Lib.hid (HB3.out.trans (HI.out.mono HB3.out.size))
  clear hb_
  obtain ⟨x, K4⟩ : ∃ x, Hid (x = (middleB (fun s => s == [72, 101, 98, 114, 101, 119]) (fun s => s == [68, 111, 117, 98, 108, 101, 81, 117, 111, 116, 101]) F.toList A.toList B.toList X.toList)) := ⟨_, rfl⟩
  rw [← K4.out]
  cases x; rotate_left
  · go_wp2_with fail
    go_ret
    exact ⟨by unfold joinedB; rw [← K1.out, ← K2.out, ← K3.out, ← K4.out]; rfl, HB0.out.trans (HBc.out.mono HB0.out.size)⟩
  go_upto_region 12 with fail
  go_cut [47] (fun c wx => c = .bool (middleB (fun s => s == [78, 117, 109, 101, 114, 105, 99]) (fun s => s == [77, 105, 100, 78, 117, 109] || quoteB s) F.toList A.toList B.toList X.toList) ∧ Below w3.heap.size w3 wx)
  case first =>
    have c0 := cell_later HBc.out C0.out
    have c1 := cell_later HBc.out C1.out
    have c2 := cell_later HBc.out C2.out
    have c3 := cell_later HBc.out C3.out
    refine regionJ12 _ _ _ _ _ w.heap.size F A B X v5 rfl rfl (by kernel_rfl) (by kernel_rfl) (by first | simp | exact Nat.le_refl _ | decide) rfl rfl rfl rfl c0 c1 c2 c3 (H5.out.below HI.out) ?_
    intro V W_ hb_ hV
    have hVn : V 7 = .bool (middleB (fun s => s == [78, 117, 109, 101, 114, 105, 99]) (fun s => s == [77, 105, 100, 78, 117, 109] || quoteB s) F.toList A.toList B.toList X.toList) := hV 7 (by decide)
    simp [frS, stepS, Exit.then]
    rw [hVn]
    clear hV hVn
    go_wp2_with fail
    go_meet
    case rel => exact ⟨rfl, HI.out.trans (hb_.mono HI.out.size)⟩
  case rest =>
  obtain ⟨rfl, hb_⟩ := hcut
  replace HI := Lib.hid hb_
  replace HBc := Lib.hid (HB3.out.trans (HI.out.mono HB3.out.size))
  clear hb_
  obtain ⟨x, K5⟩ : ∃ x, Hid (x = (middleB (fun s => s == [78, 117, 109, 101, 114, 105, 99]) (fun s => s == [77, 105, 100, 78, 117, 109] || quoteB s) F.toList A.toList B.toList X.toList)) := ⟨_, rfl⟩
  rw [← K5.out]
  cases x; rotate_left
  · go_wp2_with fail
    go_ret
    exact ⟨by unfold joinedB; rw [← K1.out, ← K2.out, ← K3.out, ← K4.out, ← K5.out]; rfl, HB0.out.trans (HBc.out.mono HB0.out.size)⟩
  go_upto_region 14 with fail
  go_cut [55] (fun c wx => c = .bool (A.toList == [75, 97, 116, 97, 107, 97, 110, 97] && B.toList == [75, 97, 116, 97, 107, 97, 110, 97]) ∧ Below w3.heap.size w3 wx)
  case first =>
    have c0 := cell_later HBc.out C0.out
    have c1 := cell_later HBc.out C1.out
    have c2 := cell_later HBc.out C2.out
    have c3 := cell_later HBc.out C3.out
    cases k1 : (A.toList == [75, 97, 116, 97, 107, 97, 110, 97])
    · go_wp2_with fail
      go_meet
      case rel => exact ⟨by rw [k1]; rfl, HI.out⟩
    · cases k2 : (B.toList == [75, 97, 116, 97, 107, 97, 110, 97])
      · go_wp2_with fail
        go_meet
        case rel => exact ⟨by rw [k1, k2]; rfl, HI.out⟩
      · go_wp2_with fail
        go_meet
        case rel => exact ⟨by rw [k1, k2]; rfl, HI.out⟩
  case rest =>
  obtain ⟨rfl, hb_⟩ := hcut
  replace HI := Lib.hid hb_
  replace HBc := Lib.hid (HB3.out.trans (HI.out.mono HB3.out.size))
  clear hb_
  obtain ⟨x, K6⟩ : ∃ x, Hid (x = (A.toList == [75, 97, 116, 97, 107, 97, 110, 97] && B.toList == [75, 97, 116, 97, 107, 97, 110, 97])) := ⟨_, rfl⟩
  rw [← K6.out]
  cases x; rotate_left
  · go_wp2_with fail
    go_ret
    exact ⟨by unfold joinedB; rw [← K1.out, ← K2.out, ← K3.out, ← K4.out, ← K5.out, ← K6.out]; rfl, HB0.out.trans (HBc.out.mono HB0.out.size)⟩
  go_upto_region 16 with fail
  go_cut [64] (fun c wx => c = .bool (B.toList == [74, 111, 105, 110, 101, 114] && (solidB A.toList || A.toList == [74, 111, 105, 110, 101, 114])) ∧ Below w3.heap.size w3 wx)
  case first =>
    have c0 := cell_later HBc.out C0.out
    have c1 := cell_later HBc.out C1.out
    have c2 := cell_later HBc.out C2.out
    have c3 := cell_later HBc.out C3.out
    cases k1 : (B.toList == [74, 111, 105, 110, 101, 114])
    · go_wp2_with fail
      go_meet
      case rel => exact ⟨by rw [k1]; rfl, HI.out⟩
    · go_wp2_with fail
      refine (solid_walk A _).mono ?_
      rintro e w_ ⟨rfl, rfl⟩
      cases k2 : solidB A.toList; rotate_left
      · go_wp2_with fail
        go_meet
        case rel => exact ⟨by rw [k1, k2]; rfl, HI.out⟩
      · cases k3 : (A.toList == [74, 111, 105, 110, 101, 114])
        · go_wp2_with fail
          go_meet
          case rel => exact ⟨by rw [k1, k2, k3]; rfl, HI.out⟩
        · go_wp2_with fail
          go_meet
          case rel => exact ⟨by rw [k1, k2, k3]; rfl, HI.out⟩
  case rest =>
  obtain ⟨rfl, hb_⟩ := hcut
  replace HI := Lib.hid hb_
  replace HBc := Lib.hid (HB3.out.trans (HI.out.mono HB3.out.size))
  clear hb_
  obtain ⟨x, K7⟩ : ∃ x, Hid (x = (B.toList == [74, 111, 105, 110, 101, 114] && (solidB A.toList || A.toList == [74, 111, 105, 110, 101, 114]))) := ⟨_, rfl⟩
  rw [← K7.out]
  cases x; rotate_left
  · go_wp2_with fail
    go_ret
    exact ⟨by unfold joinedB; rw [← K1.out, ← K2.out, ← K3.out, ← K4.out, ← K5.out, ← K6.out, ← K7.out]; rfl, HB0.out.trans (HBc.out.mono HB0.out.size)⟩
  go_upto_region 17 with fail
  go_cut [64] (fun c wx => c = .bool (A.toList == [74, 111, 105, 110, 101, 114] && solidB B.toList) ∧ Below w3.heap.size w3 wx)
  case first =>
    have c0 := cell_later HBc.out C0.out
    have c1 := cell_later HBc.out C1.out
    have c2 := cell_later HBc.out C2.out
    have c3 := cell_later HBc.out C3.out
    cases k1 : (A.toList == [74, 111, 105, 110, 101, 114])
    · go_wp2_with fail
      go_meet
      case rel => exact ⟨by rw [k1]; rfl, HI.out⟩
    · go_wp2_with fail
      refine (solid_walk B _).mono ?_
      rintro e w_ ⟨rfl, rfl⟩
      go_wp2_with fail
      go_meet
      case rel => exact ⟨by rw [k1, Bool.true_and], HI.out⟩
  case rest =>
  obtain ⟨rfl, hb_⟩ := hcut
  replace HI := Lib.hid hb_
  replace HBc := Lib.hid (HB3.out.trans (HI.out.mono HB3.out.size))
  clear hb_
  obtain ⟨x, K8⟩ : ∃ x, Hid (x = (A.toList == [74, 111, 105, 110, 101, 114] && solidB B.toList)) := ⟨_, rfl⟩
  rw [← K8.out]
  cases x; rotate_left
  · go_wp2_with fail
    go_ret
    exact ⟨by unfold joinedB; rw [← K1.out, ← K2.out, ← K3.out, ← K4.out, ← K5.out, ← K6.out, ← K7.out, ← K8.out]; rfl, HB0.out.trans (HBc.out.mono HB0.out.size)⟩
  · go_wp2_with fail
    go_ret
    exact ⟨by unfold joinedB; rw [← K1.out, ← K2.out, ← K3.out, ← K4.out, ← K5.out, ← K6.out, ← K7.out, ← K8.out]; rfl, HB0.out.trans (HBc.out.mono HB0.out.size)⟩
end Go.Proofs.YtkgomgfhfoomhaaGreatDoor
