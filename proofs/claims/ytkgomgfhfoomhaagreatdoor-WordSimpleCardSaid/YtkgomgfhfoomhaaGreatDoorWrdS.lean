/- word.Is, word.Simple, of any tables whose Category is known. The lemmas of the region that draws its order are printed by wip/tools/mkwrds.py. -/
import Derived.Test.YtkgomgfhfoomhaaGreatDoorWrdA
import Derived.Deep.DeepCutAuto
namespace Go.Proofs.YtkgomgfhfoomhaaGreatDoor
open Go.RowKit
set_option linter.unusedVariables false
set_option linter.unusedSimpArgs false

def isW (c : Sp.Str) : Bool := Lib.hasPrefix c [76] || Lib.hasPrefix c [77] || Lib.containsS [⟨#[78, 108]⟩, ⟨#[78, 100]⟩, ⟨#[80, 99]⟩] ⟨c.toArray⟩
/-- The tables' Category, in this world and later ones. -/
def CatIs (w : World) (tv : Value) (C : Int → Sp.Str) : Prop := ∀ (W : World), Below w.heap.size w W → ∀ r : Int, Calls Tryz.prog 58 #[tv, .int .i64 r] W fun e W' => e = .returned (.string ⟨(C r).toArray⟩) ∧ Below W.heap.size W W'
theorem CatIs.below {w w' : World} {tv : Value} {C : Int → Sp.Str} (h : CatIs w tv C) (hb : Below w.heap.size w w') : CatIs w' tv C := fun W hW r => h W (hb.trans (hW.mono hb.size)) r
set_option maxRecDepth 100000 in
set_option maxHeartbeats 1600000 in
theorem is_of {w : World} {p : Option Addr} {C : Int → Sp.Str} (h : CatIs w (.pointer p) C) (r : Int) : Calls Tryz.prog 35 #[.pointer p, .int .i64 r] w fun e w' => e = .returned (.bool (isW (C r))) ∧ Below w.heap.size w w' := by
  have HC := Lib.hid (h w (Below.refl _ _) r)
  clear h
  generalize C r = c at *
  go_enter Tryz.func35, Tryz.ntmps35
  go_wp2_with fail
  refine HC.out.mono ?_
  rintro e w1 ⟨rfl, hb1⟩
  have HB1 := Lib.hid hb1
  have hd : (⟨c.toArray⟩ : ByteArray).data.toList = c := rfl
  have H1 := Lib.hid (show Lib.hasPrefix (⟨c.toArray⟩ : ByteArray).data.toList (⟨#[76]⟩ : ByteArray).data.toList = Lib.hasPrefix c [76] from rfl)
  have H2 := Lib.hid (show Lib.hasPrefix (⟨c.toArray⟩ : ByteArray).data.toList (⟨#[77]⟩ : ByteArray).data.toList = Lib.hasPrefix c [77] from rfl)
  have He := Lib.hid (show isW c = (Lib.hasPrefix c [76] || Lib.hasPrefix c [77] || Lib.containsS [⟨#[78, 108]⟩, ⟨#[78, 100]⟩, ⟨#[80, 99]⟩] ⟨c.toArray⟩) from rfl)
  clear hb1 hd HC
  obtain ⟨S, hS⟩ : ∃ S : ByteArray, S = ⟨c.toArray⟩ := ⟨_, rfl⟩
  rw [← hS] at H1 H2 He ⊢
  clear hS
  go_wp2_with fail
  refine (Tryz.strings_HasPrefix S ⟨#[76]⟩ _).mono ?_
  rintro e w1 ⟨rfl, rfl⟩
  rw [H1.out]
  cases k1 : Lib.hasPrefix c [76] with
  | true =>
    have Hf := Lib.hid (show isW c = true by rw [He.out, k1]; rfl)
    clear k1
    go_wp2_with fail
    go_ret
    exact ⟨by rw [Hf.out]; rfl, HB1.out⟩
  | false =>
    go_wp2_with fail
    refine (Tryz.strings_HasPrefix S ⟨#[77]⟩ _).mono ?_
    rintro e w1 ⟨rfl, rfl⟩
    rw [H2.out]
    cases k2 : Lib.hasPrefix c [77] with
    | true =>
      have Hf := Lib.hid (show isW c = true by rw [He.out, k1, k2]; rfl)
      clear k1 k2
      go_wp2_with fail
      go_ret
      exact ⟨by rw [Hf.out]; rfl, HB1.out⟩
    | false =>
      have Hf := Lib.hid (show isW c = Lib.containsS [⟨#[78, 108]⟩, ⟨#[78, 100]⟩, ⟨#[80, 99]⟩] S by rw [He.out, k1, k2]; rfl)
      clear k1 k2
      go_wp2_with fail
      refine (Tryz.slices_Contains_string w1.heap.size 0 3 3 [⟨#[78, 108]⟩, ⟨#[78, 100]⟩, ⟨#[80, 99]⟩] S _ (by simp) (by decide) ?_).mono ?_
      · intro j hj
        have h1 := (cells_of_row (row_new w1 (Obj.cells #[Value.string ⟨#[78, 108]⟩, Value.string ⟨#[78, 100]⟩, Value.string ⟨#[80, 99]⟩] 9))).1 j
        rw [Nat.zero_add, h1]
        match j, hj with
        | 0, _ => rfl
        | 1, _ => rfl
        | 2, _ => rfl
      rintro e w2 ⟨rfl, rfl⟩
      have hb2 := alloc_below w1 (Obj.cells #[Value.string ⟨#[78, 108]⟩, Value.string ⟨#[78, 100]⟩, Value.string ⟨#[80, 99]⟩] 9)
      have HB2 := Lib.hid (HB1.out.trans (hb2.mono HB1.out.size))
      clear hb2
      go_wp2_with fail
      go_ret
      exact ⟨by rw [Hf.out]; rfl, HB2.out⟩
/-- Whether \w fits what stands at a place. -/
def inW (C : Int → Sp.Str) (zs : List Int) (i : Int) : Bool := decide (0 ≤ i) && decide (i < zs.length) && isW (C (zs.getD i.toNat 0))
def simpleW (C : Int → Sp.Str) (zs : List Int) (p : Int) : Bool := decide (0 ≤ p) && decide (p ≤ zs.length) && (inW C zs (p - 1) != inW C zs p)

abbrev dsSA : List (Option Tmp) := [some 5, some 6, some 7, some 8, some 9, some 10, some 11, some 12, some 13, some 14, some 15, some 16, some 17, some 18, some 19, some 20, some 4]
abbrev needsSA : List (Nat × Nat) := [(1, 0), (2, 1), (3, 2), (4, 2), (5, 4), (5, 2), (6, 3), (6, 5), (6, 2), (7, 2), (7, 6), (8, 7), (9, 8), (10, 8), (11, 8), (12, 10), (12, 11), (12, 8), (13, 12), (13, 8), (14, 9), (14, 13), (14, 8), (15, 8), (15, 14), (16, 15)]
abbrev opsSA : List Op := [.move (.tmp 0), .binOp .geq 3 (.tmp 5) (.const (.int .i64 0)) 3, .move (.tmp 6), .move (.tmp 0), .load 22 (.tmp 1), .call { callee := .builtin .len, args := #[.tmp 9], argTypes := #[22] }, .binOp .lss 3 (.tmp 8) (.tmp 10) 3, .pick (.tmp 7) (.tmp 11) (.const (.bool false)), .move (.tmp 12), .load 23 (.tmp 2), .load 22 (.tmp 1), .move (.tmp 0), .indexAddr 22 (.tmp 15) (.tmp 16), .load 3 (.tmp 17), .call { callee := .value (.func 35), args := #[.tmp 14, .tmp 18], argTypes := #[23, 3] }, .pick (.tmp 13) (.tmp 19) (.const (.bool false)), .assign (.tmp 20)]
abbrev gsSA : List (Option (Nat × Bool)) := [none, none, none, some (2, true), some (2, true), some (2, true), some (2, true), none, none, some (8, true), some (8, true), some (8, true), some (8, true), some (8, true), some (8, true), none, none]
def relSA (b1 b2 : Nat) (tp : Option Addr) (A : Option Addr) (i : Int) (n c : Nat) : Nat → Value → World → Prop := fun kx vx W => match kx with
  | 0 => vx = .int .i64 i
  | 1 => vx = .bool false
  | 2 => vx = .bool false
  | 3 => vx = undef
  | 4 => vx = undef
  | 5 => vx = undef
  | 6 => vx = undef
  | 7 => vx = .bool false
  | 8 => vx = .bool false
  | 9 => vx = undef
  | 10 => vx = undef
  | 11 => vx = undef
  | 12 => vx = undef
  | 13 => vx = undef
  | 14 => vx = undef
  | 15 => vx = .bool false
  | 16 => vx = .bool false
  | _ => True
set_option maxHeartbeats 1600000 in
theorem regionSA (a : Act) (ops : Array Oper) (rid : Nat) (Q : Exit → Act → World → Prop) (w : World) (b1 b2 : Nat) (tp : Option Addr) (A : Option Addr) (i : Int) (n c : Nat) (hops : ops.toList.map (·.op) = opsSA) (hgs : ops.toList.map (·.guard) = gsSA) (hok : dagOkG ops dsSA = true) (hnd : needsOk2 ops needsSA = true) (hsz : 21 ≤ a.tmps.size)
    (h0 : a.tmps.getD 0 undef = .int .i64 i)
    (h1 : a.tmps.getD 1 undef = .pointer (some ⟨b1, 0, none⟩))
    (h2 : a.tmps.getD 2 undef = .pointer (some ⟨b2, 0, none⟩))
    (c1 : w.cell? ⟨b1, 0, none⟩ = some (.slice A n c)) (c2 : w.cell? ⟨b2, 0, none⟩ = some (.pointer tp)) (d1 : decide (i ≥ 0) = false)
    (hend : ∀ vs W, (fun W => Below w.heap.size w W) W → (∀ j, j < 17 → relSA b1 b2 tp A i n c j (vs j) W) → Q .normal { a with tmps := frS (fun j => decide (j < 17)) vs 0 dsSA a.tmps } W) :
    (Code.region rid ops true).wp Tryz.prog Q a w := by
  have hlen : ops.size = 17 := by have := congrArg List.length hops; simpa using this
  have hop : ∀ (i : Nat) (o : Oper), ops[i]? = some o → ∀ x, opsSA[i]? = some x → o.op = x := by
    intro i o ho x hx
    rw [← hops, List.getElem?_map, Array.getElem?_toList, ho] at hx
    simpa using hx
  have hgu : ∀ (i : Nat) (o : Oper), ops[i]? = some o → ∀ x, gsSA[i]? = some x → o.guard = x := by
    intro i o ho x hx
    rw [← hgs, List.getElem?_map, Array.getElem?_toList, ho] at hx
    simpa using hx
  rw [← hlen] at hend
  refine wp_region_rel (by kernel_rfl) dsSA hok (fun t ht => Nat.lt_of_lt_of_le (of_decide_eq_true (List.all_eq_true.1 (show dsSA.all (fun d => match d with | some t => decide (t < 21) | none => true) = true from rfl) _ ht)) hsz) (relSA b1 b2 tp A i n c) (fun W => Below w.heap.size w W) ?_ ?_ ?_ hend
  · intro i v W W' h hb
    unfold relSA at h ⊢
    split at h
    · exact h
    · exact h
    · exact h
    · exact h
    · exact h
    · exact h
    · exact h
    · exact h
    · exact h
    · exact h
    · exact h
    · exact h
    · exact h
    · exact h
    · exact h
    · exact h
    · exact h
    · exact h
  · exact ⟨rfl, rfl, rfl, Nat.le_refl _, fun _ _ => rfl⟩
  intro kx o ho ρ W hb hρ hold hold2 hcon hfun _
  have hkx : kx < 17 := by rw [← hlen]; exact (Array.getElem?_eq_some_iff.1 ho).1
  have e0 : ρ (.tmp 0) = .int .i64 i := (hold 0 (by decide)).trans h0
  have e1 : ρ (.tmp 1) = .pointer (some ⟨b1, 0, none⟩) := (hold 1 (by decide)).trans h1
  have e2 : ρ (.tmp 2) = .pointer (some ⟨b2, 0, none⟩) := (hold 2 (by decide)).trans h2
  match kx, hkx with
  | 0, _ =>
    have hg := hgu 0 o ho _ rfl
    have ho' := hop 0 o ho _ rfl
    simp only [hg]
    exact .inl ⟨_, rfl, .inl (by unfold execOp; rw [ho']; go_simp)⟩
  | 1, _ =>
    have hg := hgu 1 o ho _ rfl
    have ho' := hop 1 o ho _ rfl
    simp only [hg]
    have q5 : ρ (.tmp 5) = .int .i64 i := hρ 0 (needs2_get hnd 1 0 (by decide)) 5 rfl
    exact .inl ⟨_, rfl, .inl (by unfold execOp; rw [ho']; go_simp)⟩
  | 2, _ =>
    have hg := hgu 2 o ho _ rfl
    have ho' := hop 2 o ho _ rfl
    simp only [hg]
    have q6 : ρ (.tmp 6) = .bool false := hρ 1 (needs2_get hnd 2 1 (by decide)) 6 rfl
    exact .inl ⟨_, rfl, .inl (by unfold execOp; rw [ho']; go_simp)⟩
  | 3, _ =>
    have hg := hgu 3 o ho _ rfl
    have ho' := hop 3 o ho _ rfl
    simp only [hg]
    intro t ht
    obtain rfl : 7 = t := by simpa [dsSA] using ht
    have qg : ρ (.tmp 7) = .bool false := hρ 2 (needs2_get hnd 3 2 (by decide)) 7 rfl
    refine ⟨fun hq => absurd (qg.symm.trans hq) (by simp), fun _ => rfl⟩
  | 4, _ =>
    have hg := hgu 4 o ho _ rfl
    have ho' := hop 4 o ho _ rfl
    simp only [hg]
    intro t ht
    obtain rfl : 7 = t := by simpa [dsSA] using ht
    have qg : ρ (.tmp 7) = .bool false := hρ 2 (needs2_get hnd 4 2 (by decide)) 7 rfl
    refine ⟨fun hq => absurd (qg.symm.trans hq) (by simp), fun _ => rfl⟩
  | 5, _ =>
    have hg := hgu 5 o ho _ rfl
    have ho' := hop 5 o ho _ rfl
    simp only [hg]
    have q9 : ρ (.tmp 9) = undef := hρ 4 (needs2_get hnd 5 4 (by decide)) 9 rfl
    intro t ht
    obtain rfl : 7 = t := by simpa [dsSA] using ht
    have qg : ρ (.tmp 7) = .bool false := hρ 2 (needs2_get hnd 5 2 (by decide)) 7 rfl
    refine ⟨fun hq => absurd (qg.symm.trans hq) (by simp), fun _ => rfl⟩
  | 6, _ =>
    have hg := hgu 6 o ho _ rfl
    have ho' := hop 6 o ho _ rfl
    simp only [hg]
    have q8 : ρ (.tmp 8) = undef := hρ 3 (needs2_get hnd 6 3 (by decide)) 8 rfl
    have q10 : ρ (.tmp 10) = undef := hρ 5 (needs2_get hnd 6 5 (by decide)) 10 rfl
    intro t ht
    obtain rfl : 7 = t := by simpa [dsSA] using ht
    have qg : ρ (.tmp 7) = .bool false := hρ 2 (needs2_get hnd 6 2 (by decide)) 7 rfl
    refine ⟨fun hq => absurd (qg.symm.trans hq) (by simp), fun _ => rfl⟩
  | 7, _ =>
    have hg := hgu 7 o ho _ rfl
    have ho' := hop 7 o ho _ rfl
    simp only [hg]
    have q7 : ρ (.tmp 7) = .bool false := hρ 2 (needs2_get hnd 7 2 (by decide)) 7 rfl
    have q11 : ρ (.tmp 11) = undef := hρ 6 (needs2_get hnd 7 6 (by decide)) 11 rfl
    exact .inl ⟨_, rfl, .inl (by unfold execOp; rw [ho']; go_simp)⟩
  | 8, _ =>
    have hg := hgu 8 o ho _ rfl
    have ho' := hop 8 o ho _ rfl
    simp only [hg]
    have q12 : ρ (.tmp 12) = .bool false := hρ 7 (needs2_get hnd 8 7 (by decide)) 12 rfl
    exact .inl ⟨_, rfl, .inl (by unfold execOp; rw [ho']; go_simp)⟩
  | 9, _ =>
    have hg := hgu 9 o ho _ rfl
    have ho' := hop 9 o ho _ rfl
    simp only [hg]
    intro t ht
    obtain rfl : 13 = t := by simpa [dsSA] using ht
    have qg : ρ (.tmp 13) = .bool false := hρ 8 (needs2_get hnd 9 8 (by decide)) 13 rfl
    refine ⟨fun hq => absurd (qg.symm.trans hq) (by simp), fun _ => rfl⟩
  | 10, _ =>
    have hg := hgu 10 o ho _ rfl
    have ho' := hop 10 o ho _ rfl
    simp only [hg]
    intro t ht
    obtain rfl : 13 = t := by simpa [dsSA] using ht
    have qg : ρ (.tmp 13) = .bool false := hρ 8 (needs2_get hnd 10 8 (by decide)) 13 rfl
    refine ⟨fun hq => absurd (qg.symm.trans hq) (by simp), fun _ => rfl⟩
  | 11, _ =>
    have hg := hgu 11 o ho _ rfl
    have ho' := hop 11 o ho _ rfl
    simp only [hg]
    intro t ht
    obtain rfl : 13 = t := by simpa [dsSA] using ht
    have qg : ρ (.tmp 13) = .bool false := hρ 8 (needs2_get hnd 11 8 (by decide)) 13 rfl
    refine ⟨fun hq => absurd (qg.symm.trans hq) (by simp), fun _ => rfl⟩
  | 12, _ =>
    have hg := hgu 12 o ho _ rfl
    have ho' := hop 12 o ho _ rfl
    simp only [hg]
    have q15 : ρ (.tmp 15) = undef := hρ 10 (needs2_get hnd 12 10 (by decide)) 15 rfl
    have q16 : ρ (.tmp 16) = undef := hρ 11 (needs2_get hnd 12 11 (by decide)) 16 rfl
    intro t ht
    obtain rfl : 13 = t := by simpa [dsSA] using ht
    have qg : ρ (.tmp 13) = .bool false := hρ 8 (needs2_get hnd 12 8 (by decide)) 13 rfl
    refine ⟨fun hq => absurd (qg.symm.trans hq) (by simp), fun _ => rfl⟩
  | 13, _ =>
    have hg := hgu 13 o ho _ rfl
    have ho' := hop 13 o ho _ rfl
    simp only [hg]
    have q17 : ρ (.tmp 17) = undef := hρ 12 (needs2_get hnd 13 12 (by decide)) 17 rfl
    intro t ht
    obtain rfl : 13 = t := by simpa [dsSA] using ht
    have qg : ρ (.tmp 13) = .bool false := hρ 8 (needs2_get hnd 13 8 (by decide)) 13 rfl
    refine ⟨fun hq => absurd (qg.symm.trans hq) (by simp), fun _ => rfl⟩
  | 14, _ =>
    have hg := hgu 14 o ho _ rfl
    have ho' := hop 14 o ho _ rfl
    simp only [hg]
    have q14 : ρ (.tmp 14) = undef := hρ 9 (needs2_get hnd 14 9 (by decide)) 14 rfl
    have q18 : ρ (.tmp 18) = undef := hρ 13 (needs2_get hnd 14 13 (by decide)) 18 rfl
    intro t ht
    obtain rfl : 13 = t := by simpa [dsSA] using ht
    have qg : ρ (.tmp 13) = .bool false := hρ 8 (needs2_get hnd 14 8 (by decide)) 13 rfl
    refine ⟨fun hq => absurd (qg.symm.trans hq) (by simp), fun _ => rfl⟩
  | 15, _ =>
    have hg := hgu 15 o ho _ rfl
    have ho' := hop 15 o ho _ rfl
    simp only [hg]
    have q13 : ρ (.tmp 13) = .bool false := hρ 8 (needs2_get hnd 15 8 (by decide)) 13 rfl
    have q19 : ρ (.tmp 19) = undef := hρ 14 (needs2_get hnd 15 14 (by decide)) 19 rfl
    exact .inl ⟨_, rfl, .inl (by unfold execOp; rw [ho']; go_simp)⟩
  | 16, _ =>
    have hg := hgu 16 o ho _ rfl
    have ho' := hop 16 o ho _ rfl
    simp only [hg]
    have q20 : ρ (.tmp 20) = .bool false := hρ 15 (needs2_get hnd 16 15 (by decide)) 20 rfl
    exact .inl ⟨_, rfl, .inl (by unfold execOp; rw [ho']; go_simp)⟩
  | nx + 17, hx => exact absurd hx (by omega)
abbrev dsSB : List (Option Tmp) := [some 5, some 6, some 7, some 8, some 9, some 10, some 11, some 12, some 13, some 14, some 15, some 16, some 17, some 18, some 19, some 20, some 4]
abbrev needsSB : List (Nat × Nat) := [(1, 0), (2, 1), (3, 2), (4, 2), (5, 4), (5, 2), (6, 3), (6, 5), (6, 2), (7, 2), (7, 6), (8, 7), (9, 8), (10, 8), (11, 8), (12, 10), (12, 11), (12, 8), (13, 12), (13, 8), (14, 9), (14, 13), (14, 8), (15, 8), (15, 14), (16, 15)]
abbrev opsSB : List Op := [.move (.tmp 0), .binOp .geq 3 (.tmp 5) (.const (.int .i64 0)) 3, .move (.tmp 6), .move (.tmp 0), .load 22 (.tmp 1), .call { callee := .builtin .len, args := #[.tmp 9], argTypes := #[22] }, .binOp .lss 3 (.tmp 8) (.tmp 10) 3, .pick (.tmp 7) (.tmp 11) (.const (.bool false)), .move (.tmp 12), .load 23 (.tmp 2), .load 22 (.tmp 1), .move (.tmp 0), .indexAddr 22 (.tmp 15) (.tmp 16), .load 3 (.tmp 17), .call { callee := .value (.func 35), args := #[.tmp 14, .tmp 18], argTypes := #[23, 3] }, .pick (.tmp 13) (.tmp 19) (.const (.bool false)), .assign (.tmp 20)]
abbrev gsSB : List (Option (Nat × Bool)) := [none, none, none, some (2, true), some (2, true), some (2, true), some (2, true), none, none, some (8, true), some (8, true), some (8, true), some (8, true), some (8, true), some (8, true), none, none]
def relSB (b1 b2 : Nat) (tp : Option Addr) (A : Option Addr) (i : Int) (n c : Nat) : Nat → Value → World → Prop := fun kx vx W => match kx with
  | 0 => vx = .int .i64 i
  | 1 => vx = .bool true
  | 2 => vx = .bool true
  | 3 => vx = .int .i64 i
  | 4 => vx = .slice A n c
  | 5 => vx = .int .i64 n
  | 6 => vx = .bool false
  | 7 => vx = .bool false
  | 8 => vx = .bool false
  | 9 => vx = undef
  | 10 => vx = undef
  | 11 => vx = undef
  | 12 => vx = undef
  | 13 => vx = undef
  | 14 => vx = undef
  | 15 => vx = .bool false
  | 16 => vx = .bool false
  | _ => True
set_option maxHeartbeats 1600000 in
theorem regionSB (a : Act) (ops : Array Oper) (rid : Nat) (Q : Exit → Act → World → Prop) (w : World) (b1 b2 : Nat) (tp : Option Addr) (A : Option Addr) (i : Int) (n c : Nat) (hops : ops.toList.map (·.op) = opsSB) (hgs : ops.toList.map (·.guard) = gsSB) (hok : dagOkG ops dsSB = true) (hnd : needsOk2 ops needsSB = true) (hsz : 21 ≤ a.tmps.size)
    (h0 : a.tmps.getD 0 undef = .int .i64 i)
    (h1 : a.tmps.getD 1 undef = .pointer (some ⟨b1, 0, none⟩))
    (h2 : a.tmps.getD 2 undef = .pointer (some ⟨b2, 0, none⟩))
    (c1 : w.cell? ⟨b1, 0, none⟩ = some (.slice A n c)) (c2 : w.cell? ⟨b2, 0, none⟩ = some (.pointer tp)) (d1 : decide (i ≥ 0) = true) (d2 : decide (i < (n : Int)) = false)
    (hend : ∀ vs W, (fun W => Below w.heap.size w W) W → (∀ j, j < 17 → relSB b1 b2 tp A i n c j (vs j) W) → Q .normal { a with tmps := frS (fun j => decide (j < 17)) vs 0 dsSB a.tmps } W) :
    (Code.region rid ops true).wp Tryz.prog Q a w := by
  have hlen : ops.size = 17 := by have := congrArg List.length hops; simpa using this
  have hop : ∀ (i : Nat) (o : Oper), ops[i]? = some o → ∀ x, opsSB[i]? = some x → o.op = x := by
    intro i o ho x hx
    rw [← hops, List.getElem?_map, Array.getElem?_toList, ho] at hx
    simpa using hx
  have hgu : ∀ (i : Nat) (o : Oper), ops[i]? = some o → ∀ x, gsSB[i]? = some x → o.guard = x := by
    intro i o ho x hx
    rw [← hgs, List.getElem?_map, Array.getElem?_toList, ho] at hx
    simpa using hx
  rw [← hlen] at hend
  refine wp_region_rel (by kernel_rfl) dsSB hok (fun t ht => Nat.lt_of_lt_of_le (of_decide_eq_true (List.all_eq_true.1 (show dsSB.all (fun d => match d with | some t => decide (t < 21) | none => true) = true from rfl) _ ht)) hsz) (relSB b1 b2 tp A i n c) (fun W => Below w.heap.size w W) ?_ ?_ ?_ hend
  · intro i v W W' h hb
    unfold relSB at h ⊢
    split at h
    · exact h
    · exact h
    · exact h
    · exact h
    · exact h
    · exact h
    · exact h
    · exact h
    · exact h
    · exact h
    · exact h
    · exact h
    · exact h
    · exact h
    · exact h
    · exact h
    · exact h
    · exact h
  · exact ⟨rfl, rfl, rfl, Nat.le_refl _, fun _ _ => rfl⟩
  intro kx o ho ρ W hb hρ hold hold2 hcon hfun _
  have hkx : kx < 17 := by rw [← hlen]; exact (Array.getElem?_eq_some_iff.1 ho).1
  have e0 : ρ (.tmp 0) = .int .i64 i := (hold 0 (by decide)).trans h0
  have e1 : ρ (.tmp 1) = .pointer (some ⟨b1, 0, none⟩) := (hold 1 (by decide)).trans h1
  have e2 : ρ (.tmp 2) = .pointer (some ⟨b2, 0, none⟩) := (hold 2 (by decide)).trans h2
  match kx, hkx with
  | 0, _ =>
    have hg := hgu 0 o ho _ rfl
    have ho' := hop 0 o ho _ rfl
    simp only [hg]
    exact .inl ⟨_, rfl, .inl (by unfold execOp; rw [ho']; go_simp)⟩
  | 1, _ =>
    have hg := hgu 1 o ho _ rfl
    have ho' := hop 1 o ho _ rfl
    simp only [hg]
    have q5 : ρ (.tmp 5) = .int .i64 i := hρ 0 (needs2_get hnd 1 0 (by decide)) 5 rfl
    exact .inl ⟨_, rfl, .inl (by unfold execOp; rw [ho']; go_simp)⟩
  | 2, _ =>
    have hg := hgu 2 o ho _ rfl
    have ho' := hop 2 o ho _ rfl
    simp only [hg]
    have q6 : ρ (.tmp 6) = .bool true := hρ 1 (needs2_get hnd 2 1 (by decide)) 6 rfl
    exact .inl ⟨_, rfl, .inl (by unfold execOp; rw [ho']; go_simp)⟩
  | 3, _ =>
    have hg := hgu 3 o ho _ rfl
    have ho' := hop 3 o ho _ rfl
    simp only [hg]
    intro t ht
    obtain rfl : 7 = t := by simpa [dsSB] using ht
    have qg : ρ (.tmp 7) = .bool true := hρ 2 (needs2_get hnd 3 2 (by decide)) 7 rfl
    refine ⟨fun _ => ?_, fun hq => absurd qg hq⟩
    exact .inl ⟨_, rfl, .inl (by unfold execOp; rw [ho']; go_simp)⟩
  | 4, _ =>
    have hg := hgu 4 o ho _ rfl
    have ho' := hop 4 o ho _ rfl
    simp only [hg]
    intro t ht
    obtain rfl : 7 = t := by simpa [dsSB] using ht
    have qg : ρ (.tmp 7) = .bool true := hρ 2 (needs2_get hnd 4 2 (by decide)) 7 rfl
    refine ⟨fun _ => ?_, fun hq => absurd qg hq⟩
    have q0 := cell_later hb c1
    exact .inl ⟨_, rfl, .inl (by unfold execOp; rw [ho']; go_simp)⟩
  | 5, _ =>
    have hg := hgu 5 o ho _ rfl
    have ho' := hop 5 o ho _ rfl
    simp only [hg]
    have q9 : ρ (.tmp 9) = .slice A n c := hρ 4 (needs2_get hnd 5 4 (by decide)) 9 rfl
    intro t ht
    obtain rfl : 7 = t := by simpa [dsSB] using ht
    have qg : ρ (.tmp 7) = .bool true := hρ 2 (needs2_get hnd 5 2 (by decide)) 7 rfl
    refine ⟨fun _ => ?_, fun hq => absurd qg hq⟩
    exact .inl ⟨_, rfl, .inl (by unfold execOp; rw [ho']; go_simp)⟩
  | 6, _ =>
    have hg := hgu 6 o ho _ rfl
    have ho' := hop 6 o ho _ rfl
    simp only [hg]
    have q8 : ρ (.tmp 8) = .int .i64 i := hρ 3 (needs2_get hnd 6 3 (by decide)) 8 rfl
    have q10 : ρ (.tmp 10) = .int .i64 n := hρ 5 (needs2_get hnd 6 5 (by decide)) 10 rfl
    intro t ht
    obtain rfl : 7 = t := by simpa [dsSB] using ht
    have qg : ρ (.tmp 7) = .bool true := hρ 2 (needs2_get hnd 6 2 (by decide)) 7 rfl
    refine ⟨fun _ => ?_, fun hq => absurd qg hq⟩
    exact .inl ⟨_, rfl, .inl (by unfold execOp; rw [ho']; go_simp)⟩
  | 7, _ =>
    have hg := hgu 7 o ho _ rfl
    have ho' := hop 7 o ho _ rfl
    simp only [hg]
    have q7 : ρ (.tmp 7) = .bool true := hρ 2 (needs2_get hnd 7 2 (by decide)) 7 rfl
    have q11 : ρ (.tmp 11) = .bool false := hρ 6 (needs2_get hnd 7 6 (by decide)) 11 rfl
    exact .inl ⟨_, rfl, .inl (by unfold execOp; rw [ho']; go_simp)⟩
  | 8, _ =>
    have hg := hgu 8 o ho _ rfl
    have ho' := hop 8 o ho _ rfl
    simp only [hg]
    have q12 : ρ (.tmp 12) = .bool false := hρ 7 (needs2_get hnd 8 7 (by decide)) 12 rfl
    exact .inl ⟨_, rfl, .inl (by unfold execOp; rw [ho']; go_simp)⟩
  | 9, _ =>
    have hg := hgu 9 o ho _ rfl
    have ho' := hop 9 o ho _ rfl
    simp only [hg]
    intro t ht
    obtain rfl : 13 = t := by simpa [dsSB] using ht
    have qg : ρ (.tmp 13) = .bool false := hρ 8 (needs2_get hnd 9 8 (by decide)) 13 rfl
    refine ⟨fun hq => absurd (qg.symm.trans hq) (by simp), fun _ => rfl⟩
  | 10, _ =>
    have hg := hgu 10 o ho _ rfl
    have ho' := hop 10 o ho _ rfl
    simp only [hg]
    intro t ht
    obtain rfl : 13 = t := by simpa [dsSB] using ht
    have qg : ρ (.tmp 13) = .bool false := hρ 8 (needs2_get hnd 10 8 (by decide)) 13 rfl
    refine ⟨fun hq => absurd (qg.symm.trans hq) (by simp), fun _ => rfl⟩
  | 11, _ =>
    have hg := hgu 11 o ho _ rfl
    have ho' := hop 11 o ho _ rfl
    simp only [hg]
    intro t ht
    obtain rfl : 13 = t := by simpa [dsSB] using ht
    have qg : ρ (.tmp 13) = .bool false := hρ 8 (needs2_get hnd 11 8 (by decide)) 13 rfl
    refine ⟨fun hq => absurd (qg.symm.trans hq) (by simp), fun _ => rfl⟩
  | 12, _ =>
    have hg := hgu 12 o ho _ rfl
    have ho' := hop 12 o ho _ rfl
    simp only [hg]
    have q15 : ρ (.tmp 15) = undef := hρ 10 (needs2_get hnd 12 10 (by decide)) 15 rfl
    have q16 : ρ (.tmp 16) = undef := hρ 11 (needs2_get hnd 12 11 (by decide)) 16 rfl
    intro t ht
    obtain rfl : 13 = t := by simpa [dsSB] using ht
    have qg : ρ (.tmp 13) = .bool false := hρ 8 (needs2_get hnd 12 8 (by decide)) 13 rfl
    refine ⟨fun hq => absurd (qg.symm.trans hq) (by simp), fun _ => rfl⟩
  | 13, _ =>
    have hg := hgu 13 o ho _ rfl
    have ho' := hop 13 o ho _ rfl
    simp only [hg]
    have q17 : ρ (.tmp 17) = undef := hρ 12 (needs2_get hnd 13 12 (by decide)) 17 rfl
    intro t ht
    obtain rfl : 13 = t := by simpa [dsSB] using ht
    have qg : ρ (.tmp 13) = .bool false := hρ 8 (needs2_get hnd 13 8 (by decide)) 13 rfl
    refine ⟨fun hq => absurd (qg.symm.trans hq) (by simp), fun _ => rfl⟩
  | 14, _ =>
    have hg := hgu 14 o ho _ rfl
    have ho' := hop 14 o ho _ rfl
    simp only [hg]
    have q14 : ρ (.tmp 14) = undef := hρ 9 (needs2_get hnd 14 9 (by decide)) 14 rfl
    have q18 : ρ (.tmp 18) = undef := hρ 13 (needs2_get hnd 14 13 (by decide)) 18 rfl
    intro t ht
    obtain rfl : 13 = t := by simpa [dsSB] using ht
    have qg : ρ (.tmp 13) = .bool false := hρ 8 (needs2_get hnd 14 8 (by decide)) 13 rfl
    refine ⟨fun hq => absurd (qg.symm.trans hq) (by simp), fun _ => rfl⟩
  | 15, _ =>
    have hg := hgu 15 o ho _ rfl
    have ho' := hop 15 o ho _ rfl
    simp only [hg]
    have q13 : ρ (.tmp 13) = .bool false := hρ 8 (needs2_get hnd 15 8 (by decide)) 13 rfl
    have q19 : ρ (.tmp 19) = undef := hρ 14 (needs2_get hnd 15 14 (by decide)) 19 rfl
    exact .inl ⟨_, rfl, .inl (by unfold execOp; rw [ho']; go_simp)⟩
  | 16, _ =>
    have hg := hgu 16 o ho _ rfl
    have ho' := hop 16 o ho _ rfl
    simp only [hg]
    have q20 : ρ (.tmp 20) = .bool false := hρ 15 (needs2_get hnd 16 15 (by decide)) 20 rfl
    exact .inl ⟨_, rfl, .inl (by unfold execOp; rw [ho']; go_simp)⟩
  | nx + 17, hx => exact absurd hx (by omega)
abbrev dsSC : List (Option Tmp) := [some 5, some 6, some 7, some 8, some 9, some 10, some 11, some 12, some 13, some 14, some 15, some 16, some 17, some 18, some 19, some 20, some 4]
abbrev needsSC : List (Nat × Nat) := [(1, 0), (2, 1), (3, 2), (4, 2), (5, 4), (5, 2), (6, 3), (6, 5), (6, 2), (7, 2), (7, 6), (8, 7), (9, 8), (10, 8), (11, 8), (12, 10), (12, 11), (12, 8), (13, 12), (13, 8), (14, 9), (14, 13), (14, 8), (15, 8), (15, 14), (16, 15)]
abbrev opsSC : List Op := [.move (.tmp 0), .binOp .geq 3 (.tmp 5) (.const (.int .i64 0)) 3, .move (.tmp 6), .move (.tmp 0), .load 22 (.tmp 1), .call { callee := .builtin .len, args := #[.tmp 9], argTypes := #[22] }, .binOp .lss 3 (.tmp 8) (.tmp 10) 3, .pick (.tmp 7) (.tmp 11) (.const (.bool false)), .move (.tmp 12), .load 23 (.tmp 2), .load 22 (.tmp 1), .move (.tmp 0), .indexAddr 22 (.tmp 15) (.tmp 16), .load 3 (.tmp 17), .call { callee := .value (.func 35), args := #[.tmp 14, .tmp 18], argTypes := #[23, 3] }, .pick (.tmp 13) (.tmp 19) (.const (.bool false)), .assign (.tmp 20)]
abbrev gsSC : List (Option (Nat × Bool)) := [none, none, none, some (2, true), some (2, true), some (2, true), some (2, true), none, none, some (8, true), some (8, true), some (8, true), some (8, true), some (8, true), some (8, true), none, none]
def relSC (b1 b2 : Nat) (tp : Option Addr) (ad : Addr) (i n c : Nat) (z : Int) (g : Bool) : Nat → Value → World → Prop := fun kx vx W => match kx with
  | 0 => vx = .int .i64 i
  | 1 => vx = .bool true
  | 2 => vx = .bool true
  | 3 => vx = .int .i64 i
  | 4 => vx = .slice (some ad) n c
  | 5 => vx = .int .i64 n
  | 6 => vx = .bool true
  | 7 => vx = .bool true
  | 8 => vx = .bool true
  | 9 => vx = .pointer tp
  | 10 => vx = .slice (some ad) n c
  | 11 => vx = .int .i64 i
  | 12 => vx = .pointer (some (ad.add i))
  | 13 => vx = .int .i64 z
  | 14 => vx = .bool g
  | 15 => vx = .bool g
  | 16 => vx = .bool g
  | _ => True
set_option maxHeartbeats 1600000 in
theorem regionSC (a : Act) (ops : Array Oper) (rid : Nat) (Q : Exit → Act → World → Prop) (w : World) (b1 b2 : Nat) (tp : Option Addr) (ad : Addr) (i n c : Nat) (z : Int) (g : Bool) (hops : ops.toList.map (·.op) = opsSC) (hgs : ops.toList.map (·.guard) = gsSC) (hok : dagOkG ops dsSC = true) (hnd : needsOk2 ops needsSC = true) (hsz : 21 ≤ a.tmps.size)
    (h0 : a.tmps.getD 0 undef = .int .i64 i)
    (h1 : a.tmps.getD 1 undef = .pointer (some ⟨b1, 0, none⟩))
    (h2 : a.tmps.getD 2 undef = .pointer (some ⟨b2, 0, none⟩))
    (c1 : w.cell? ⟨b1, 0, none⟩ = some (.slice (some ad) n c)) (c2 : w.cell? ⟨b2, 0, none⟩ = some (.pointer tp)) (d2 : decide ((i : Int) < (n : Int)) = true) (hi : i < n) (hn : n ≤ 9223372036854775807) (cz : w.cell? (ad.add i) = some (.int .i64 z))
    (hI : ∀ W, Below w.heap.size w W → Calls Tryz.prog 35 #[.pointer tp, .int .i64 z] W fun e W' => e = .returned (.bool g) ∧ Below W.heap.size W W')
    (hend : ∀ vs W, (fun W => Below w.heap.size w W) W → (∀ j, j < 17 → relSC b1 b2 tp ad i n c z g j (vs j) W) → Q .normal { a with tmps := frS (fun j => decide (j < 17)) vs 0 dsSC a.tmps } W) :
    (Code.region rid ops true).wp Tryz.prog Q a w := by
  have hlen : ops.size = 17 := by have := congrArg List.length hops; simpa using this
  have hop : ∀ (i : Nat) (o : Oper), ops[i]? = some o → ∀ x, opsSC[i]? = some x → o.op = x := by
    intro i o ho x hx
    rw [← hops, List.getElem?_map, Array.getElem?_toList, ho] at hx
    simpa using hx
  have hgu : ∀ (i : Nat) (o : Oper), ops[i]? = some o → ∀ x, gsSC[i]? = some x → o.guard = x := by
    intro i o ho x hx
    rw [← hgs, List.getElem?_map, Array.getElem?_toList, ho] at hx
    simpa using hx
  rw [← hlen] at hend
  refine wp_region_rel (by kernel_rfl) dsSC hok (fun t ht => Nat.lt_of_lt_of_le (of_decide_eq_true (List.all_eq_true.1 (show dsSC.all (fun d => match d with | some t => decide (t < 21) | none => true) = true from rfl) _ ht)) hsz) (relSC b1 b2 tp ad i n c z g) (fun W => Below w.heap.size w W) ?_ ?_ ?_ hend
  · intro i v W W' h hb
    unfold relSC at h ⊢
    split at h
    · exact h
    · exact h
    · exact h
    · exact h
    · exact h
    · exact h
    · exact h
    · exact h
    · exact h
    · exact h
    · exact h
    · exact h
    · exact h
    · exact h
    · exact h
    · exact h
    · exact h
    · exact h
  · exact ⟨rfl, rfl, rfl, Nat.le_refl _, fun _ _ => rfl⟩
  intro kx o ho ρ W hb hρ hold hold2 hcon hfun _
  have hkx : kx < 17 := by rw [← hlen]; exact (Array.getElem?_eq_some_iff.1 ho).1
  have e0 : ρ (.tmp 0) = .int .i64 i := (hold 0 (by decide)).trans h0
  have e1 : ρ (.tmp 1) = .pointer (some ⟨b1, 0, none⟩) := (hold 1 (by decide)).trans h1
  have e2 : ρ (.tmp 2) = .pointer (some ⟨b2, 0, none⟩) := (hold 2 (by decide)).trans h2
  match kx, hkx with
  | 0, _ =>
    have hg := hgu 0 o ho _ rfl
    have ho' := hop 0 o ho _ rfl
    simp only [hg]
    exact .inl ⟨_, rfl, .inl (by unfold execOp; rw [ho']; go_simp)⟩
  | 1, _ =>
    have hg := hgu 1 o ho _ rfl
    have ho' := hop 1 o ho _ rfl
    simp only [hg]
    have q5 : ρ (.tmp 5) = .int .i64 i := hρ 0 (needs2_get hnd 1 0 (by decide)) 5 rfl
    exact .inl ⟨_, rfl, .inl (by unfold execOp; rw [ho']; go_simp)⟩
  | 2, _ =>
    have hg := hgu 2 o ho _ rfl
    have ho' := hop 2 o ho _ rfl
    simp only [hg]
    have q6 : ρ (.tmp 6) = .bool true := hρ 1 (needs2_get hnd 2 1 (by decide)) 6 rfl
    exact .inl ⟨_, rfl, .inl (by unfold execOp; rw [ho']; go_simp)⟩
  | 3, _ =>
    have hg := hgu 3 o ho _ rfl
    have ho' := hop 3 o ho _ rfl
    simp only [hg]
    intro t ht
    obtain rfl : 7 = t := by simpa [dsSC] using ht
    have qg : ρ (.tmp 7) = .bool true := hρ 2 (needs2_get hnd 3 2 (by decide)) 7 rfl
    refine ⟨fun _ => ?_, fun hq => absurd qg hq⟩
    exact .inl ⟨_, rfl, .inl (by unfold execOp; rw [ho']; go_simp)⟩
  | 4, _ =>
    have hg := hgu 4 o ho _ rfl
    have ho' := hop 4 o ho _ rfl
    simp only [hg]
    intro t ht
    obtain rfl : 7 = t := by simpa [dsSC] using ht
    have qg : ρ (.tmp 7) = .bool true := hρ 2 (needs2_get hnd 4 2 (by decide)) 7 rfl
    refine ⟨fun _ => ?_, fun hq => absurd qg hq⟩
    have q0 := cell_later hb c1
    exact .inl ⟨_, rfl, .inl (by unfold execOp; rw [ho']; go_simp)⟩
  | 5, _ =>
    have hg := hgu 5 o ho _ rfl
    have ho' := hop 5 o ho _ rfl
    simp only [hg]
    have q9 : ρ (.tmp 9) = .slice (some ad) n c := hρ 4 (needs2_get hnd 5 4 (by decide)) 9 rfl
    intro t ht
    obtain rfl : 7 = t := by simpa [dsSC] using ht
    have qg : ρ (.tmp 7) = .bool true := hρ 2 (needs2_get hnd 5 2 (by decide)) 7 rfl
    refine ⟨fun _ => ?_, fun hq => absurd qg hq⟩
    exact .inl ⟨_, rfl, .inl (by unfold execOp; rw [ho']; go_simp)⟩
  | 6, _ =>
    have hg := hgu 6 o ho _ rfl
    have ho' := hop 6 o ho _ rfl
    simp only [hg]
    have q8 : ρ (.tmp 8) = .int .i64 i := hρ 3 (needs2_get hnd 6 3 (by decide)) 8 rfl
    have q10 : ρ (.tmp 10) = .int .i64 n := hρ 5 (needs2_get hnd 6 5 (by decide)) 10 rfl
    intro t ht
    obtain rfl : 7 = t := by simpa [dsSC] using ht
    have qg : ρ (.tmp 7) = .bool true := hρ 2 (needs2_get hnd 6 2 (by decide)) 7 rfl
    refine ⟨fun _ => ?_, fun hq => absurd qg hq⟩
    exact .inl ⟨_, rfl, .inl (by unfold execOp; rw [ho']; go_simp)⟩
  | 7, _ =>
    have hg := hgu 7 o ho _ rfl
    have ho' := hop 7 o ho _ rfl
    simp only [hg]
    have q7 : ρ (.tmp 7) = .bool true := hρ 2 (needs2_get hnd 7 2 (by decide)) 7 rfl
    have q11 : ρ (.tmp 11) = .bool true := hρ 6 (needs2_get hnd 7 6 (by decide)) 11 rfl
    exact .inl ⟨_, rfl, .inl (by unfold execOp; rw [ho']; go_simp)⟩
  | 8, _ =>
    have hg := hgu 8 o ho _ rfl
    have ho' := hop 8 o ho _ rfl
    simp only [hg]
    have q12 : ρ (.tmp 12) = .bool true := hρ 7 (needs2_get hnd 8 7 (by decide)) 12 rfl
    exact .inl ⟨_, rfl, .inl (by unfold execOp; rw [ho']; go_simp)⟩
  | 9, _ =>
    have hg := hgu 9 o ho _ rfl
    have ho' := hop 9 o ho _ rfl
    simp only [hg]
    intro t ht
    obtain rfl : 13 = t := by simpa [dsSC] using ht
    have qg : ρ (.tmp 13) = .bool true := hρ 8 (needs2_get hnd 9 8 (by decide)) 13 rfl
    refine ⟨fun _ => ?_, fun hq => absurd qg hq⟩
    have q0 := cell_later hb c2
    exact .inl ⟨_, rfl, .inl (by unfold execOp; rw [ho']; go_simp)⟩
  | 10, _ =>
    have hg := hgu 10 o ho _ rfl
    have ho' := hop 10 o ho _ rfl
    simp only [hg]
    intro t ht
    obtain rfl : 13 = t := by simpa [dsSC] using ht
    have qg : ρ (.tmp 13) = .bool true := hρ 8 (needs2_get hnd 10 8 (by decide)) 13 rfl
    refine ⟨fun _ => ?_, fun hq => absurd qg hq⟩
    have q0 := cell_later hb c1
    exact .inl ⟨_, rfl, .inl (by unfold execOp; rw [ho']; go_simp)⟩
  | 11, _ =>
    have hg := hgu 11 o ho _ rfl
    have ho' := hop 11 o ho _ rfl
    simp only [hg]
    intro t ht
    obtain rfl : 13 = t := by simpa [dsSC] using ht
    have qg : ρ (.tmp 13) = .bool true := hρ 8 (needs2_get hnd 11 8 (by decide)) 13 rfl
    refine ⟨fun _ => ?_, fun hq => absurd qg hq⟩
    exact .inl ⟨_, rfl, .inl (by unfold execOp; rw [ho']; go_simp)⟩
  | 12, _ =>
    have hg := hgu 12 o ho _ rfl
    have ho' := hop 12 o ho _ rfl
    simp only [hg]
    have q15 : ρ (.tmp 15) = .slice (some ad) n c := hρ 10 (needs2_get hnd 12 10 (by decide)) 15 rfl
    have q16 : ρ (.tmp 16) = .int .i64 i := hρ 11 (needs2_get hnd 12 11 (by decide)) 16 rfl
    intro t ht
    obtain rfl : 13 = t := by simpa [dsSC] using ht
    have qg : ρ (.tmp 13) = .bool true := hρ 8 (needs2_get hnd 12 8 (by decide)) 13 rfl
    refine ⟨fun _ => ?_, fun hq => absurd qg hq⟩
    exact .inl ⟨_, rfl, .inl (by unfold execOp; rw [ho']; go_simp)⟩
  | 13, _ =>
    have hg := hgu 13 o ho _ rfl
    have ho' := hop 13 o ho _ rfl
    simp only [hg]
    have q17 : ρ (.tmp 17) = .pointer (some (ad.add i)) := hρ 12 (needs2_get hnd 13 12 (by decide)) 17 rfl
    intro t ht
    obtain rfl : 13 = t := by simpa [dsSC] using ht
    have qg : ρ (.tmp 13) = .bool true := hρ 8 (needs2_get hnd 13 8 (by decide)) 13 rfl
    refine ⟨fun _ => ?_, fun hq => absurd qg hq⟩
    have q0 := cell_later hb cz
    exact .inl ⟨_, rfl, .inl (by unfold execOp; rw [ho']; go_simp)⟩
  | 14, _ =>
    have hg := hgu 14 o ho _ rfl
    have ho' := hop 14 o ho _ rfl
    simp only [hg]
    have q14 : ρ (.tmp 14) = .pointer tp := hρ 9 (needs2_get hnd 14 9 (by decide)) 14 rfl
    have q18 : ρ (.tmp 18) = .int .i64 z := hρ 13 (needs2_get hnd 14 13 (by decide)) 18 rfl
    intro t ht
    obtain rfl : 13 = t := by simpa [dsSC] using ht
    have qg : ρ (.tmp 13) = .bool true := hρ 8 (needs2_get hnd 14 8 (by decide)) 13 rfl
    refine ⟨fun _ => ?_, fun hq => absurd qg hq⟩
    refine .inr (.inr ⟨35, #[.pointer tp, .int .i64 z], ?_, ?_⟩)
    · unfold execOp
      rw [ho']
      simp [go_sem, hfun, q14, q18, resolve, Act.eval]
    · refine (hI W hb).mono ?_
      rintro e W' ⟨rfl, hb'⟩
      exact ⟨_, rfl, hb.trans (hb'.mono hb.size), hb', rfl⟩
  | 15, _ =>
    have hg := hgu 15 o ho _ rfl
    have ho' := hop 15 o ho _ rfl
    simp only [hg]
    have q13 : ρ (.tmp 13) = .bool true := hρ 8 (needs2_get hnd 15 8 (by decide)) 13 rfl
    have q19 : ρ (.tmp 19) = .bool g := hρ 14 (needs2_get hnd 15 14 (by decide)) 19 rfl
    exact .inl ⟨_, rfl, .inl (by unfold execOp; rw [ho']; go_simp)⟩
  | 16, _ =>
    have hg := hgu 16 o ho _ rfl
    have ho' := hop 16 o ho _ rfl
    simp only [hg]
    have q20 : ρ (.tmp 20) = .bool g := hρ 15 (needs2_get hnd 16 15 (by decide)) 20 rfl
    exact .inl ⟨_, rfl, .inl (by unfold execOp; rw [ho']; go_simp)⟩
  | nx + 17, hx => exact absurd hx (by omega)
set_option maxRecDepth 100000 in
theorem in_of {w : World} {b1 b2 : Nat} {tp : Option Addr} {v : Value} {C : Int → Sp.Str} {zs : List Int} (h : CatIs w (.pointer tp) C) (hl : ListAt w v zs) (c1 : w.cell? ⟨b1, 0, none⟩ = some v) (c2 : w.cell? ⟨b2, 0, none⟩ = some (.pointer tp)) (i : Int) :
    Calls Tryz.prog 85 #[.int .i64 i, .pointer (some ⟨b1, 0, none⟩), .pointer (some ⟨b2, 0, none⟩)] w fun e w' => e = .returned (.bool (inW C zs i)) ∧ Below w.heap.size w w' := by
  obtain ⟨A, c, rfl, hn, hz0⟩ := hl
  have C1 := Lib.hid c1
  have C2 := Lib.hid c2
  have H := Lib.hid h
  clear c1 c2 h
  by_cases h1 : 0 ≤ i
  · obtain ⟨q, rfl⟩ := Int.eq_ofNat_of_zero_le h1
    by_cases h2 : q < zs.length
    · obtain ⟨ad, rfl, hz⟩ := hz0 (by omega)
      have He := Lib.hid (show inW C zs q = isW (C (zs.getD q 0)) by unfold inW; rw [decide_eq_true h1, decide_eq_true (show (q : Int) < (zs.length : Int) by omega)]; rfl)
      have Hz := Lib.hid (hz q _ (intz_get zs q h2))
      have Hq := Lib.hid h2
      clear hz hz0 h1 h2
      go_enter Tryz.func85, Tryz.ntmps85
      go_wp2_with fail
      refine regionSC _ _ _ _ _ b1 b2 tp ad q zs.length c (zs.getD q 0) (isW (C (zs.getD q 0))) rfl rfl (by kernel_rfl) (by kernel_rfl) (by first | simp | exact Nat.le_refl _ | decide) rfl rfl rfl C1.out C2.out (decide_eq_true (by have := Hq.out; omega)) Hq.out hn Hz.out (fun W hb => is_of (H.out.below hb) _) ?_
      intro V W hb hV
      have hVn : V 16 = .bool (isW (C (zs.getD q 0))) := hV 16 (by decide)
      simp [frS, stepS, Exit.then]
      rw [hVn, ← He.out]
      have HB := Lib.hid hb
      clear hb hV hVn He
      go_wp2_with fail
      go_ret
      exact ⟨rfl, HB.out⟩
    · have He := Lib.hid (show inW C zs q = false by unfold inW; rw [decide_eq_false (show ¬ (q : Int) < (zs.length : Int) by omega), Bool.and_false, Bool.false_and])
      have d1 := Lib.hid (decide_eq_true (show (q : Int) ≥ 0 from h1))
      have d2 := Lib.hid (decide_eq_false (show ¬ (q : Int) < (zs.length : Int) by omega))
      clear hz0 h1 h2
      go_enter Tryz.func85, Tryz.ntmps85
      go_wp2_with fail
      refine regionSB _ _ _ _ _ b1 b2 tp A q zs.length c rfl rfl (by kernel_rfl) (by kernel_rfl) (by first | simp | exact Nat.le_refl _ | decide) rfl rfl rfl C1.out C2.out d1.out d2.out ?_
      intro V W hb hV
      have hVn : V 16 = .bool false := hV 16 (by decide)
      simp [frS, stepS, Exit.then]
      rw [hVn]
      have HB := Lib.hid hb
      clear hb hV hVn
      go_wp2_with fail
      go_ret
      exact ⟨by rw [He.out]; rfl, HB.out⟩
  · have He := Lib.hid (show inW C zs i = false by unfold inW; rw [decide_eq_false h1, Bool.false_and, Bool.false_and])
    have d1 := Lib.hid (decide_eq_false (show ¬ i ≥ 0 from h1))
    clear hz0 h1
    go_enter Tryz.func85, Tryz.ntmps85
    go_wp2_with fail
    refine regionSA _ _ _ _ _ b1 b2 tp A i zs.length c rfl rfl (by kernel_rfl) (by kernel_rfl) (by first | simp | exact Nat.le_refl _ | decide) rfl rfl rfl C1.out C2.out d1.out ?_
    intro V W hb hV
    have hVn : V 16 = .bool false := hV 16 (by decide)
    simp [frS, stepS, Exit.then]
    rw [hVn]
    have HB := Lib.hid hb
    clear hb hV hVn
    go_wp2_with fail
    go_ret
    exact ⟨by rw [He.out]; rfl, HB.out⟩
set_option maxRecDepth 100000 in
set_option maxHeartbeats 1600000 in
theorem simple_of {w : World} {tp : Option Addr} {v : Value} {C : Int → Sp.Str} {zs : List Int} (h : CatIs w (.pointer tp) C) (hl : ListAt w v zs) (p : Int) (hp : (Lit.int .i64 p).wf = true) :
    Calls Tryz.prog 33 #[.pointer tp, v, .int .i64 p] w fun e w' => e = .returned (.bool (simpleW C zs p)) ∧ Below w.heap.size w w' := by
  have hl0 := hl
  obtain ⟨A, c, rfl, hn, hz0⟩ := hl
  have hb1 := alloc_below w (Obj.cells #[.pointer tp] 23)
  have k1 := (cells_of_row (row_new w (Obj.cells #[.pointer tp] 23))).1 0
  have hb2 := alloc_below (w.alloc (Obj.cells #[.pointer tp] 23)) (Obj.cells #[.slice A zs.length c] 22)
  have k2 := (cells_of_row (row_new (w.alloc (Obj.cells #[.pointer tp] 23)) (Obj.cells #[.slice A zs.length c] 22))).1 0
  rw [size_new] at k2
  have k1' := cell_later hb2 k1
  have hb := hb1.trans (hb2.mono hb1.size)
  obtain ⟨W0, hW0⟩ : ∃ W0, W0 = (w.alloc (Obj.cells #[.pointer tp] 23)).alloc (Obj.cells #[.slice A zs.length c] 22) := ⟨_, rfl⟩
  rw [← hW0] at k1' k2 hb
  have HB := Lib.hid hb
  have K1 := Lib.hid k1'
  have K2 := Lib.hid k2
  have H0 := Lib.hid (h.below hb)
  have HL := Lib.hid (hl0.below hb)
  have HI := Lib.hid (fun (W : World) (hW : Below W0.heap.size W0 W) (i : Int) => in_of (H0.out.below hW) (HL.out.below hW) (cell_later hW K2.out) (cell_later hW K1.out) i)
  clear hb1 hb2 k1 k1' k2 hb h hl0 hz0 H0 HL
  go_enter Tryz.func33, Tryz.ntmps33
  go_upto_region 2 with fail
  rw [← hW0]
  clear hW0
  have c1 := K1.out
  have c2 := K2.out
  by_cases h1 : 0 ≤ p
  · have d1 := decide_eq_true (show p ≥ 0 from h1)
    by_cases h2 : p ≤ (zs.length : Int)
    · have d2 := decide_eq_true h2
      have He := Lib.hid (show simpleW C zs p = (inW C zs (p - 1) != inW C zs p) by unfold simpleW; rw [decide_eq_true h1, d2]; rfl)
      have a1 : IntKind.i64.wrap (p - 1) = p - 1 := by rw [IntKind.wrap_i64]; omega
      have a2 : wrap64 (p - 1) = p - 1 := by unfold wrap64; omega
      go_wp2_with fail
      refine (HI.out W0 (Below.refl _ _) (p - 1)).mono ?_
      rintro e w3 ⟨rfl, hb3⟩
      have HB3 := Lib.hid hb3
      clear hb3 c1 c2
      have c2 := cell_later HB3.out K2.out
      go_wp2_with fail
      refine (HI.out w3 HB3.out p).mono ?_
      rintro e w4 ⟨rfl, hb4⟩
      have HB4 := Lib.hid (HB.out.trans ((HB3.out.trans (hb4.mono HB3.out.size)).mono HB.out.size))
      clear hb4
      go_wp2_with fail
      go_ret
      exact ⟨by rw [He.out]; first | done | rfl, HB4.out⟩
    · have d2 := decide_eq_false h2
      have n2 : (zs.length : Int) < p := by omega
      have He := Lib.hid (show simpleW C zs p = false by unfold simpleW; rw [d2, Bool.and_false, Bool.false_and])
      go_wp2_with fail
      go_ret
      exact ⟨by rw [He.out]; first | done | rfl, HB.out⟩
  · have d1 := decide_eq_false (show ¬ p ≥ 0 from h1)
    have n1 : p < 0 := by omega
    have He := Lib.hid (show simpleW C zs p = false by unfold simpleW; rw [decide_eq_false h1, Bool.false_and, Bool.false_and])
    go_wp2_with fail
    go_ret
    exact ⟨by rw [He.out]; first | done | rfl, HB.out⟩
end Go.Proofs.YtkgomgfhfoomhaaGreatDoor
