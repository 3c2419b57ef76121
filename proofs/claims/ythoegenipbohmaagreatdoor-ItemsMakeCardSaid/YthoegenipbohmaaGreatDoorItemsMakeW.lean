/- rubricatorlaw12.ItemsMake answers true. Printed by wip/tools/mkmake.py. -/
import Derived.Test.YthoegenipbohmaaGreatDoorItmR
import Derived.Test.YthoegenipbohmaaGreatDoorDagM
import Derived.Laws.BytesArg
namespace Go.Proofs.YthoegenipbohmaaGreatDoor
open Go.RowKit Utf Itm
set_option linter.unusedVariables false
set_option linter.unusedSimpArgs false
theorem conv_bytes {w : World} {B : Nat} {v : Value} {bs : List Nat} (h : BytesO w B v bs) : (convert 53 9 v).run Tryz.prog w = .ok (.string (strOfNums (bs.map Int.ofNat))) w := by
  rcases h.2 with ⟨rfl, h0⟩ | ⟨g, cap, cur, rfl, _⟩
  · obtain rfl := List.length_eq_zero_iff.1 h0
    rw [run_convert_bytes_nil w 53 5 Tryz.underlying53 Tryz.underlying5 0 0 9 Tryz.underlying9]
    rfl
  · refine run_convert_bytes_arg (P := Tryz.prog) w 53 5 Tryz.underlying53 Tryz.underlying5 g 0 bs.length cap (bs.map Int.ofNat) (by rw [List.length_map]) ?_ 9 Tryz.underlying9
    intro j hj
    have := own_cell h j _ (bytz_get bs j hj)
    rw [Nat.zero_add, this]
    congr 2
    rw [List.getD_eq_getElem?_getD, List.getElem?_map, List.getElem?_eq_getElem hj]
    rfl
theorem bequal_walk {w : World} {B B' : Nat} {v u : Value} {bs : List Nat} (h : BytesO w B v bs) (h' : BytesO w B' u bs) : Calls Tryz.prog 33 #[v, u] w fun e w' => e = .returned (.bool true) ∧ w = w' := by
  have c1 := conv_bytes h
  have c2 := conv_bytes h'
  generalize strOfNums (bs.map Int.ofNat) = s at *
  obtain ⟨A, c, rfl⟩ := own_slice h
  obtain ⟨A', c', rfl⟩ := own_slice h'
  clear h h'
  go_enter Tryz.func33, Tryz.ntmps33
  go_wp2_with fail
  go_ret
  exact ⟨rfl, rfl⟩
abbrev dsIM : List (Option Tmp) := [some 15, some 16, some 17, some 18, some 19, some 20, some 21, some 22, some 23, some 24, some 25, some 26, some 27, some 28, some 29, some 30, some 31, some 32, some 33, some 34, some 35, some 36, some 37, some 38, some 39, some 40, some 4]
abbrev needsIM : List (Nat × Nat) := [(1, 0), (2, 1), (3, 2), (3, 1), (4, 1), (5, 4), (5, 1), (6, 5), (6, 1), (7, 6), (7, 1), (8, 3), (8, 7), (8, 1), (9, 1), (9, 8), (10, 9), (11, 10), (12, 11), (12, 10), (13, 10), (14, 13), (14, 10), (15, 12), (15, 14), (15, 10), (16, 10), (16, 15), (17, 16), (18, 17), (19, 18), (19, 17), (20, 17), (21, 20), (21, 17), (22, 21), (22, 17), (23, 22), (23, 17), (24, 19), (24, 23), (24, 17), (25, 17), (25, 24), (26, 25)]
abbrev opsIM : List Op := [.move (.tmp 7), .move (.tmp 15), .move (.tmp 5), .call { callee := .value (.func 30), args := #[.tmp 17], argTypes := #[54] }, .move (.tmp 6), .nilCheck (.tmp 19), .fieldAddr 61 (.tmp 20) 1, .load 22 (.tmp 21), .call { callee := .value (.func 14), args := #[.tmp 18, .tmp 22], argTypes := #[22, 22] }, .pick (.tmp 16) (.tmp 23) (.const (.bool false)), .move (.tmp 24), .move (.tmp 5), .call { callee := .value (.func 31), args := #[.tmp 26], argTypes := #[54] }, .move (.tmp 6), .call { callee := .value (.func 32), args := #[.tmp 28], argTypes := #[55] }, .call { callee := .value (.func 23), args := #[.tmp 27, .tmp 29], argTypes := #[37, 37] }, .pick (.tmp 25) (.tmp 30) (.const (.bool false)), .move (.tmp 31), .move (.tmp 5), .call { callee := .value (.func 34), args := #[.tmp 33], argTypes := #[54] }, .move (.tmp 6), .nilCheck (.tmp 35), .fieldAddr 61 (.tmp 36) 0, .load 53 (.tmp 37), .call { callee := .value (.func 33), args := #[.tmp 34, .tmp 38], argTypes := #[53, 53] }, .pick (.tmp 32) (.tmp 39) (.const (.bool false)), .assign (.tmp 40)]
abbrev gsIM : List (Option (Nat × Bool)) := [none, none, some (1, true), some (1, true), some (1, true), some (1, true), some (1, true), some (1, true), some (1, true), none, none, some (10, true), some (10, true), some (10, true), some (10, true), some (10, true), none, none, some (17, true), some (17, true), some (17, true), some (17, true), some (17, true), some (17, true), some (17, true), none, none]
def relIM (p q B B' : Nat) (bs : List Nat) (L : List It) (vb vl : Value) : Nat → Value → World → Prop := fun kx vx W => match kx with
  | 0 => vx = .bool true
  | 1 => vx = .bool true
  | 2 => vx = .pointer (some ⟨p, 0, none⟩)
  | 3 => ItsAt W vx L
  | 4 => vx = .pointer (some ⟨q, 0, none⟩)
  | 5 => vx = .pointer (some ⟨q, 0, none⟩)
  | 6 => vx = .pointer (some ⟨q, 1, none⟩)
  | 7 => vx = vl
  | 8 => vx = .bool true
  | 9 => vx = .bool true
  | 10 => vx = .bool true
  | 11 => vx = .pointer (some ⟨p, 0, none⟩)
  | 12 => ListAt W vx (L.map It.r)
  | 13 => vx = .pointer (some ⟨q, 0, none⟩)
  | 14 => ListAt W vx (L.map It.r)
  | 15 => vx = .bool true
  | 16 => vx = .bool true
  | 17 => vx = .bool true
  | 18 => vx = .pointer (some ⟨p, 0, none⟩)
  | 19 => ∃ B2, BytesO W B2 vx bs
  | 20 => vx = .pointer (some ⟨q, 0, none⟩)
  | 21 => vx = .pointer (some ⟨q, 0, none⟩)
  | 22 => vx = .pointer (some ⟨q, 0, none⟩)
  | 23 => vx = vb
  | 24 => vx = .bool true
  | 25 => vx = .bool true
  | 26 => vx = .bool true
  | _ => True
set_option maxHeartbeats 1600000 in
theorem regionIM (a : Act) (ops : Array Oper) (rid : Nat) (Q : Exit → Act → World → Prop) (w : World) (p q B B' : Nat) (bs : List Nat) (L : List It) (vb vl : Value) (hops : ops.toList.map (·.op) = opsIM) (hgs : ops.toList.map (·.guard) = gsIM) (hok : dagOkG ops dsIM = true) (hnd : needsOk2 ops needsIM = true) (hsz : 41 ≤ a.tmps.size)
    (h5 : a.tmps.getD 5 undef = .pointer (some ⟨p, 0, none⟩))
    (h6 : a.tmps.getD 6 undef = .pointer (some ⟨q, 0, none⟩))
    (h7 : a.tmps.getD 7 undef = .bool true)
    (hx : TextAt w B p bs L) (hq : RTextAt w B' q bs L) (hk0 : w.cell? ⟨q, 0, none⟩ = some vb) (hk1 : w.cell? ⟨q, 1, none⟩ = some vl) (hvb : BytesO w B' vb bs) (hvl : ItsAt w vl L) (hl : L.length ≤ 100000) (hbl : bs.length ≤ 100000)
    (hend : ∀ vs W, (fun W => Below w.heap.size w W) W → (∀ j, j < 27 → relIM p q B B' bs L vb vl j (vs j) W) → Q .normal { a with tmps := frS (fun j => decide (j < 27)) vs 0 dsIM a.tmps } W) :
    (Code.region rid ops true).wp Tryz.prog Q a w := by
  have hlen : ops.size = 27 := by have := congrArg List.length hops; simpa using this
  have hop : ∀ (i : Nat) (o : Oper), ops[i]? = some o → ∀ x, opsIM[i]? = some x → o.op = x := by
    intro i o ho x hx
    rw [← hops, List.getElem?_map, Array.getElem?_toList, ho] at hx
    simpa using hx
  have hgu : ∀ (i : Nat) (o : Oper), ops[i]? = some o → ∀ x, gsIM[i]? = some x → o.guard = x := by
    intro i o ho x hx
    rw [← hgs, List.getElem?_map, Array.getElem?_toList, ho] at hx
    simpa using hx
  rw [← hlen] at hend
  refine wp_region_rel (by kernel_rfl) dsIM hok (fun t ht => Nat.lt_of_lt_of_le (of_decide_eq_true (List.all_eq_true.1 (show dsIM.all (fun d => match d with | some t => decide (t < 41) | none => true) = true from rfl) _ ht)) hsz) (relIM p q B B' bs L vb vl) (fun W => Below w.heap.size w W) ?_ ?_ ?_ hend
  · intro i v W W' h hb
    unfold relIM at h ⊢
    split at h
    · exact h
    · exact h
    · exact h
    · exact h.below hb
    · exact h
    · exact h
    · exact h
    · exact h
    · exact h
    · exact h
    · exact h
    · exact h
    · exact h.below hb
    · exact h
    · exact h.below hb
    · exact h
    · exact h
    · exact h
    · exact h
    · exact (by obtain ⟨B2, h⟩ := h; exact ⟨B2, own_below h hb⟩)
    · exact h
    · exact h
    · exact h
    · exact h
    · exact h
    · exact h
    · exact h
    · exact h
  · exact ⟨rfl, rfl, rfl, Nat.le_refl _, fun _ _ => rfl⟩
  intro kx o ho ρ W hb hρ hold hold2 hcon hfun _
  have hkx : kx < 27 := by rw [← hlen]; exact (Array.getElem?_eq_some_iff.1 ho).1
  have e5 : ρ (.tmp 5) = .pointer (some ⟨p, 0, none⟩) := (hold 5 (by decide)).trans h5
  have e6 : ρ (.tmp 6) = .pointer (some ⟨q, 0, none⟩) := (hold 6 (by decide)).trans h6
  have e7 : ρ (.tmp 7) = .bool true := (hold 7 (by decide)).trans h7
  match kx, hkx with
  | 0, _ =>
    have hg := hgu 0 o ho _ rfl
    have ho' := hop 0 o ho _ rfl
    simp only [hg]
    exact .inl ⟨_, rfl, .inl (by unfold execOp; rw [ho']; go_simp)⟩
  | 1, _ =>
    have hg := hgu 1 o ho _ rfl
    have ho' := hop 1 o ho _ rfl
    simp only [hg]
    have q15 : ρ (.tmp 15) = .bool true := hρ 0 (needs2_get hnd 1 0 (by decide)) 15 rfl
    exact .inl ⟨_, rfl, .inl (by unfold execOp; rw [ho']; go_simp)⟩
  | 2, _ =>
    have hg := hgu 2 o ho _ rfl
    have ho' := hop 2 o ho _ rfl
    simp only [hg]
    intro t ht
    obtain rfl : 16 = t := by simpa [dsIM] using ht
    have qg : ρ (.tmp 16) = .bool true := hρ 1 (needs2_get hnd 2 1 (by decide)) 16 rfl
    refine ⟨fun _ => ?_, fun hq => absurd qg hq⟩
    exact .inl ⟨_, rfl, .inl (by unfold execOp; rw [ho']; go_simp)⟩
  | 3, _ =>
    have hg := hgu 3 o ho _ rfl
    have ho' := hop 3 o ho _ rfl
    simp only [hg]
    have q17 : ρ (.tmp 17) = .pointer (some ⟨p, 0, none⟩) := hρ 2 (needs2_get hnd 3 2 (by decide)) 17 rfl
    intro t ht
    obtain rfl : 16 = t := by simpa [dsIM] using ht
    have qg : ρ (.tmp 16) = .bool true := hρ 1 (needs2_get hnd 3 1 (by decide)) 16 rfl
    refine ⟨fun _ => ?_, fun hq => absurd qg hq⟩
    refine .inr (.inr ⟨30, #[.pointer (some ⟨p, 0, none⟩)], ?_, ?_⟩)
    · unfold execOp
      rw [ho']
      simp [go_sem, hfun, q17, resolve, Act.eval]
    · refine (titems_walk (hx.below hb) hl).mono ?_
      rintro e W' ⟨v', rfl, hv', hb'⟩
      exact ⟨v', rfl, hb.trans (hb'.mono hb.size), hb', ItsAt.of_own hv'⟩
  | 4, _ =>
    have hg := hgu 4 o ho _ rfl
    have ho' := hop 4 o ho _ rfl
    simp only [hg]
    intro t ht
    obtain rfl : 16 = t := by simpa [dsIM] using ht
    have qg : ρ (.tmp 16) = .bool true := hρ 1 (needs2_get hnd 4 1 (by decide)) 16 rfl
    refine ⟨fun _ => ?_, fun hq => absurd qg hq⟩
    exact .inl ⟨_, rfl, .inl (by unfold execOp; rw [ho']; go_simp)⟩
  | 5, _ =>
    have hg := hgu 5 o ho _ rfl
    have ho' := hop 5 o ho _ rfl
    simp only [hg]
    have q19 : ρ (.tmp 19) = .pointer (some ⟨q, 0, none⟩) := hρ 4 (needs2_get hnd 5 4 (by decide)) 19 rfl
    intro t ht
    obtain rfl : 16 = t := by simpa [dsIM] using ht
    have qg : ρ (.tmp 16) = .bool true := hρ 1 (needs2_get hnd 5 1 (by decide)) 16 rfl
    refine ⟨fun _ => ?_, fun hq => absurd qg hq⟩
    exact .inl ⟨_, rfl, .inl (by unfold execOp; rw [ho']; go_simp)⟩
  | 6, _ =>
    have hg := hgu 6 o ho _ rfl
    have ho' := hop 6 o ho _ rfl
    simp only [hg]
    have q20 : ρ (.tmp 20) = .pointer (some ⟨q, 0, none⟩) := hρ 5 (needs2_get hnd 6 5 (by decide)) 20 rfl
    intro t ht
    obtain rfl : 16 = t := by simpa [dsIM] using ht
    have qg : ρ (.tmp 16) = .bool true := hρ 1 (needs2_get hnd 6 1 (by decide)) 16 rfl
    refine ⟨fun _ => ?_, fun hq => absurd qg hq⟩
    exact .inl ⟨_, rfl, .inl (by unfold execOp; rw [ho']; go_simp)⟩
  | 7, _ =>
    have hg := hgu 7 o ho _ rfl
    have ho' := hop 7 o ho _ rfl
    simp only [hg]
    have q21 : ρ (.tmp 21) = .pointer (some ⟨q, 1, none⟩) := hρ 6 (needs2_get hnd 7 6 (by decide)) 21 rfl
    intro t ht
    obtain rfl : 16 = t := by simpa [dsIM] using ht
    have qg : ρ (.tmp 16) = .bool true := hρ 1 (needs2_get hnd 7 1 (by decide)) 16 rfl
    refine ⟨fun _ => ?_, fun hq => absurd qg hq⟩
    have c1 := cell_later hb hk1
    exact .inl ⟨_, rfl, .inl (by unfold execOp; rw [ho']; go_simp)⟩
  | 8, _ =>
    have hg := hgu 8 o ho _ rfl
    have ho' := hop 8 o ho _ rfl
    simp only [hg]
    have q18 : ItsAt W (ρ (.tmp 18)) L := hρ 3 (needs2_get hnd 8 3 (by decide)) 18 rfl
    have q22 : ρ (.tmp 22) = vl := hρ 7 (needs2_get hnd 8 7 (by decide)) 22 rfl
    intro t ht
    obtain rfl : 16 = t := by simpa [dsIM] using ht
    have qg : ρ (.tmp 16) = .bool true := hρ 1 (needs2_get hnd 8 1 (by decide)) 16 rfl
    refine ⟨fun _ => ?_, fun hq => absurd qg hq⟩
    refine .inr (.inr ⟨14, #[ρ (.tmp 18), vl], ?_, ?_⟩)
    · unfold execOp
      rw [ho']
      simp [go_sem, hfun, q22, resolve, Act.eval]
    · refine (equali_walk q18 (hvl.below hb)).mono ?_
      rintro e W' ⟨rfl, hb'⟩
      exact ⟨_, rfl, hb.trans (hb'.mono hb.size), hb', rfl⟩
  | 9, _ =>
    have hg := hgu 9 o ho _ rfl
    have ho' := hop 9 o ho _ rfl
    simp only [hg]
    have q16 : ρ (.tmp 16) = .bool true := hρ 1 (needs2_get hnd 9 1 (by decide)) 16 rfl
    have q23 : ρ (.tmp 23) = .bool true := hρ 8 (needs2_get hnd 9 8 (by decide)) 23 rfl
    exact .inl ⟨_, rfl, .inl (by unfold execOp; rw [ho']; go_simp)⟩
  | 10, _ =>
    have hg := hgu 10 o ho _ rfl
    have ho' := hop 10 o ho _ rfl
    simp only [hg]
    have q24 : ρ (.tmp 24) = .bool true := hρ 9 (needs2_get hnd 10 9 (by decide)) 24 rfl
    exact .inl ⟨_, rfl, .inl (by unfold execOp; rw [ho']; go_simp)⟩
  | 11, _ =>
    have hg := hgu 11 o ho _ rfl
    have ho' := hop 11 o ho _ rfl
    simp only [hg]
    intro t ht
    obtain rfl : 25 = t := by simpa [dsIM] using ht
    have qg : ρ (.tmp 25) = .bool true := hρ 10 (needs2_get hnd 11 10 (by decide)) 25 rfl
    refine ⟨fun _ => ?_, fun hq => absurd qg hq⟩
    exact .inl ⟨_, rfl, .inl (by unfold execOp; rw [ho']; go_simp)⟩
  | 12, _ =>
    have hg := hgu 12 o ho _ rfl
    have ho' := hop 12 o ho _ rfl
    simp only [hg]
    have q26 : ρ (.tmp 26) = .pointer (some ⟨p, 0, none⟩) := hρ 11 (needs2_get hnd 12 11 (by decide)) 26 rfl
    intro t ht
    obtain rfl : 25 = t := by simpa [dsIM] using ht
    have qg : ρ (.tmp 25) = .bool true := hρ 10 (needs2_get hnd 12 10 (by decide)) 25 rfl
    refine ⟨fun _ => ?_, fun hq => absurd qg hq⟩
    refine .inr (.inr ⟨31, #[.pointer (some ⟨p, 0, none⟩)], ?_, ?_⟩)
    · unfold execOp
      rw [ho']
      simp [go_sem, hfun, q26, resolve, Act.eval]
    · refine (trunes_walk (hx.below hb) hl).mono ?_
      rintro e W' ⟨v', rfl, hv', hb'⟩
      exact ⟨v', rfl, hb.trans (hb'.mono hb.size), hb', ListAt.of_own hv'⟩
  | 13, _ =>
    have hg := hgu 13 o ho _ rfl
    have ho' := hop 13 o ho _ rfl
    simp only [hg]
    intro t ht
    obtain rfl : 25 = t := by simpa [dsIM] using ht
    have qg : ρ (.tmp 25) = .bool true := hρ 10 (needs2_get hnd 13 10 (by decide)) 25 rfl
    refine ⟨fun _ => ?_, fun hq => absurd qg hq⟩
    exact .inl ⟨_, rfl, .inl (by unfold execOp; rw [ho']; go_simp)⟩
  | 14, _ =>
    have hg := hgu 14 o ho _ rfl
    have ho' := hop 14 o ho _ rfl
    simp only [hg]
    have q28 : ρ (.tmp 28) = .pointer (some ⟨q, 0, none⟩) := hρ 13 (needs2_get hnd 14 13 (by decide)) 28 rfl
    intro t ht
    obtain rfl : 25 = t := by simpa [dsIM] using ht
    have qg : ρ (.tmp 25) = .bool true := hρ 10 (needs2_get hnd 14 10 (by decide)) 25 rfl
    refine ⟨fun _ => ?_, fun hq => absurd qg hq⟩
    refine .inr (.inr ⟨32, #[.pointer (some ⟨q, 0, none⟩)], ?_, ?_⟩)
    · unfold execOp
      rw [ho']
      simp [go_sem, hfun, q28, resolve, Act.eval]
    · refine (rrunes_walk (hq.below hb) hl).mono ?_
      rintro e W' ⟨v', rfl, hv', hb'⟩
      exact ⟨v', rfl, hb.trans (hb'.mono hb.size), hb', ListAt.of_own hv'⟩
  | 15, _ =>
    have hg := hgu 15 o ho _ rfl
    have ho' := hop 15 o ho _ rfl
    simp only [hg]
    have q27 : ListAt W (ρ (.tmp 27)) (L.map It.r) := hρ 12 (needs2_get hnd 15 12 (by decide)) 27 rfl
    have q29 : ListAt W (ρ (.tmp 29)) (L.map It.r) := hρ 14 (needs2_get hnd 15 14 (by decide)) 29 rfl
    intro t ht
    obtain rfl : 25 = t := by simpa [dsIM] using ht
    have qg : ρ (.tmp 25) = .bool true := hρ 10 (needs2_get hnd 15 10 (by decide)) 25 rfl
    refine ⟨fun _ => ?_, fun hq => absurd qg hq⟩
    refine .inr (.inr ⟨23, #[ρ (.tmp 27), ρ (.tmp 29)], ?_, ?_⟩)
    · unfold execOp
      rw [ho']
      simp [go_sem, hfun, ho', resolve, Act.eval]
    · refine (equalv_walk q27 q29).mono ?_
      rintro e W' ⟨rfl, hb'⟩
      exact ⟨_, rfl, hb.trans (hb'.mono hb.size), hb', rfl⟩
  | 16, _ =>
    have hg := hgu 16 o ho _ rfl
    have ho' := hop 16 o ho _ rfl
    simp only [hg]
    have q25 : ρ (.tmp 25) = .bool true := hρ 10 (needs2_get hnd 16 10 (by decide)) 25 rfl
    have q30 : ρ (.tmp 30) = .bool true := hρ 15 (needs2_get hnd 16 15 (by decide)) 30 rfl
    exact .inl ⟨_, rfl, .inl (by unfold execOp; rw [ho']; go_simp)⟩
  | 17, _ =>
    have hg := hgu 17 o ho _ rfl
    have ho' := hop 17 o ho _ rfl
    simp only [hg]
    have q31 : ρ (.tmp 31) = .bool true := hρ 16 (needs2_get hnd 17 16 (by decide)) 31 rfl
    exact .inl ⟨_, rfl, .inl (by unfold execOp; rw [ho']; go_simp)⟩
  | 18, _ =>
    have hg := hgu 18 o ho _ rfl
    have ho' := hop 18 o ho _ rfl
    simp only [hg]
    intro t ht
    obtain rfl : 32 = t := by simpa [dsIM] using ht
    have qg : ρ (.tmp 32) = .bool true := hρ 17 (needs2_get hnd 18 17 (by decide)) 32 rfl
    refine ⟨fun _ => ?_, fun hq => absurd qg hq⟩
    exact .inl ⟨_, rfl, .inl (by unfold execOp; rw [ho']; go_simp)⟩
  | 19, _ =>
    have hg := hgu 19 o ho _ rfl
    have ho' := hop 19 o ho _ rfl
    simp only [hg]
    have q33 : ρ (.tmp 33) = .pointer (some ⟨p, 0, none⟩) := hρ 18 (needs2_get hnd 19 18 (by decide)) 33 rfl
    intro t ht
    obtain rfl : 32 = t := by simpa [dsIM] using ht
    have qg : ρ (.tmp 32) = .bool true := hρ 17 (needs2_get hnd 19 17 (by decide)) 32 rfl
    refine ⟨fun _ => ?_, fun hq => absurd qg hq⟩
    refine .inr (.inr ⟨34, #[.pointer (some ⟨p, 0, none⟩)], ?_, ?_⟩)
    · unfold execOp
      rw [ho']
      simp [go_sem, hfun, q33, resolve, Act.eval]
    · refine (tbytes_walk (hx.below hb) hbl).mono ?_
      rintro e W' ⟨v', rfl, hv', hb'⟩
      exact ⟨v', rfl, hb.trans (hb'.mono hb.size), hb', ⟨_, hv'⟩⟩
  | 20, _ =>
    have hg := hgu 20 o ho _ rfl
    have ho' := hop 20 o ho _ rfl
    simp only [hg]
    intro t ht
    obtain rfl : 32 = t := by simpa [dsIM] using ht
    have qg : ρ (.tmp 32) = .bool true := hρ 17 (needs2_get hnd 20 17 (by decide)) 32 rfl
    refine ⟨fun _ => ?_, fun hq => absurd qg hq⟩
    exact .inl ⟨_, rfl, .inl (by unfold execOp; rw [ho']; go_simp)⟩
  | 21, _ =>
    have hg := hgu 21 o ho _ rfl
    have ho' := hop 21 o ho _ rfl
    simp only [hg]
    have q35 : ρ (.tmp 35) = .pointer (some ⟨q, 0, none⟩) := hρ 20 (needs2_get hnd 21 20 (by decide)) 35 rfl
    intro t ht
    obtain rfl : 32 = t := by simpa [dsIM] using ht
    have qg : ρ (.tmp 32) = .bool true := hρ 17 (needs2_get hnd 21 17 (by decide)) 32 rfl
    refine ⟨fun _ => ?_, fun hq => absurd qg hq⟩
    exact .inl ⟨_, rfl, .inl (by unfold execOp; rw [ho']; go_simp)⟩
  | 22, _ =>
    have hg := hgu 22 o ho _ rfl
    have ho' := hop 22 o ho _ rfl
    simp only [hg]
    have q36 : ρ (.tmp 36) = .pointer (some ⟨q, 0, none⟩) := hρ 21 (needs2_get hnd 22 21 (by decide)) 36 rfl
    intro t ht
    obtain rfl : 32 = t := by simpa [dsIM] using ht
    have qg : ρ (.tmp 32) = .bool true := hρ 17 (needs2_get hnd 22 17 (by decide)) 32 rfl
    refine ⟨fun _ => ?_, fun hq => absurd qg hq⟩
    exact .inl ⟨_, rfl, .inl (by unfold execOp; rw [ho']; go_simp)⟩
  | 23, _ =>
    have hg := hgu 23 o ho _ rfl
    have ho' := hop 23 o ho _ rfl
    simp only [hg]
    have q37 : ρ (.tmp 37) = .pointer (some ⟨q, 0, none⟩) := hρ 22 (needs2_get hnd 23 22 (by decide)) 37 rfl
    intro t ht
    obtain rfl : 32 = t := by simpa [dsIM] using ht
    have qg : ρ (.tmp 32) = .bool true := hρ 17 (needs2_get hnd 23 17 (by decide)) 32 rfl
    refine ⟨fun _ => ?_, fun hq => absurd qg hq⟩
    have c0 := cell_later hb hk0
    exact .inl ⟨_, rfl, .inl (by unfold execOp; rw [ho']; go_simp)⟩
  | 24, _ =>
    have hg := hgu 24 o ho _ rfl
    have ho' := hop 24 o ho _ rfl
    simp only [hg]
    have q34 : ∃ B2, BytesO W B2 (ρ (.tmp 34)) bs := hρ 19 (needs2_get hnd 24 19 (by decide)) 34 rfl
    have q38 : ρ (.tmp 38) = vb := hρ 23 (needs2_get hnd 24 23 (by decide)) 38 rfl
    intro t ht
    obtain rfl : 32 = t := by simpa [dsIM] using ht
    have qg : ρ (.tmp 32) = .bool true := hρ 17 (needs2_get hnd 24 17 (by decide)) 32 rfl
    refine ⟨fun _ => ?_, fun hq => absurd qg hq⟩
    obtain ⟨B2, hB2⟩ := q34
    refine .inr (.inr ⟨33, #[ρ (.tmp 34), vb], ?_, ?_⟩)
    · unfold execOp
      rw [ho']
      simp [go_sem, hfun, q38, resolve, Act.eval]
    · refine (bequal_walk hB2 (own_below hvb hb)).mono ?_
      rintro e W' ⟨rfl, rfl⟩
      exact ⟨_, rfl, hb, Below.refl _ _, rfl⟩
  | 25, _ =>
    have hg := hgu 25 o ho _ rfl
    have ho' := hop 25 o ho _ rfl
    simp only [hg]
    have q32 : ρ (.tmp 32) = .bool true := hρ 17 (needs2_get hnd 25 17 (by decide)) 32 rfl
    have q39 : ρ (.tmp 39) = .bool true := hρ 24 (needs2_get hnd 25 24 (by decide)) 39 rfl
    exact .inl ⟨_, rfl, .inl (by unfold execOp; rw [ho']; go_simp)⟩
  | 26, _ =>
    have hg := hgu 26 o ho _ rfl
    have ho' := hop 26 o ho _ rfl
    simp only [hg]
    have q40 : ρ (.tmp 40) = .bool true := hρ 25 (needs2_get hnd 26 25 (by decide)) 40 rfl
    exact .inl ⟨_, rfl, .inl (by unfold execOp; rw [ho']; go_simp)⟩
  | nx + 27, hx => exact absurd hx (by omega)
set_option maxRecDepth 100000 in
theorem itemsMake_walk {v0 : Value} {bs : List Nat} (w : World) (h : BytesAt w v0 bs) (canon : Bool) (hE : Env w) (hT : EnvT w) (hH : Hang w) : Calls Tryz.prog 9 #[v0, .bool canon] w fun e w' => e = .returned (.bool true) ∧ Below w.heap.size w w' := by
  have HBo := Lib.hid (both_walk h canon hE hT hH)
  have hsl := subj_len canon (bs.take 300) (take300 bs)
  have hcl := take300 bs
  clear h hE hT hH
  go_enter Tryz.func9, Tryz.ntmps9
  go_wp2_with fail
  refine HBo.out.mono ?_
  rintro e w1 hbo
  obtain ⟨p, q, B, B', rfl, hx, hq, hb1⟩ := hbo.get
  generalize subj canon (bs.take 300) = L at *
  generalize bs.take 300 = cs at *
  have HX := Lib.hid hx
  have HQ := Lib.hid hq
  obtain ⟨_, _, vb, vl, h2, h3, h4⟩ := hq
  have c0 := Lib.hid (h2.cell 0)
  have c1 := Lib.hid (h2.cell 1)
  have HVB := Lib.hid (show BytesO w1 B' vb cs from h3)
  have HVL := Lib.hid (ItsAt.of_own h4)
  have HB := Lib.hid hb1
  clear hbo hx h2 h3 h4 hb1 HBo
  go_upto_region 2 with fail
  go_cut [4] (fun x wx => x = .bool true ∧ Below w1.heap.size w1 wx)
  case first =>
    refine regionIM _ _ _ _ _ p q B B' cs L vb vl rfl rfl (by kernel_rfl) (by kernel_rfl) (by first | simp | exact Nat.le_refl _ | decide) rfl rfl rfl HX.out HQ.out c0.out c1.out HVB.out HVL.out (by omega) (by omega) ?_
    intro V W_ hb_ hV
    have hVa : V 26 = .bool true := hV 26 (by decide)
    have HVa := Lib.hid hVa
    simp [frS, stepS, Exit.then]
    clear hV hVa
    go_wp2_with fail
    go_meet
    case rel => exact ⟨HVa.out, hb_⟩
  case rest =>
  obtain ⟨rfl, hb_⟩ := hcut
  have HB2 := Lib.hid (HB.out.trans (hb_.mono HB.out.size))
  clear hb_ HB
  go_wp2_with fail
  go_ret
  exact ⟨rfl, HB2.out⟩
end Go.Proofs.YthoegenipbohmaaGreatDoor
