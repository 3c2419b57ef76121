/- rubricatorlaw12.ItemsEdges answers true. Printed by wip/tools/mkedges.py. -/
import Derived.Test.YthoegenipbohmaaGreatDoorItemsSpanW
import Derived.Test.YthoegenipbohmaaGreatDoorItF
namespace Go.Proofs.YthoegenipbohmaaGreatDoor
open Go.RowKit Utf Itm
set_option linter.unusedVariables false
set_option linter.unusedSimpArgs false
def EdgeP (bs : List Nat) (a : Int) : Prop := a = (bs.length : Nat) ∨ (dec bs 0).any (fun y => y.s == a) = true
theorem edge_s {bs : List Nat} {y : It} (hy : y ∈ dec bs 0) : EdgeP bs y.s := .inr (List.any_eq_true.2 ⟨y, hy, by simp⟩)
theorem edge_e {bs : List Nat} {y : It} (hy : y ∈ dec bs 0) : EdgeP bs y.e := by
  rcases dec_next bs 0 y hy with h | ⟨z, hz, h⟩
  · left; rw [h, Nat.zero_add]
  · rw [← h]; exact edge_s hz
theorem subj_dec (canon : Bool) (bs : List Nat) : ∀ x ∈ subj canon bs, ∃ y ∈ dec bs 0, x.s = y.s ∧ x.e = y.e := by
  intro x hx
  unfold subj at hx
  split at hx
  · obtain ⟨y, hy, h1, h2, _⟩ := nfd_mem _ x hx
    exact ⟨y, hy, h1, h2⟩
  · exact ⟨x, hx, rfl, rfl⟩
theorem edges_pure (bs : List Nat) (L : List It) (hd : ∀ x ∈ L, ∃ y ∈ dec bs 0, x.s = y.s ∧ x.e = y.e) (hm : ∀ x ∈ L, 0 ≤ x.s ∧ x.s < x.e ∧ x.e ≤ bs.length) (i j : Nat) (hij : i ≤ j) (hj : j ≤ L.length) : (spanL bs.length L i j).1 ≤ (spanL bs.length L i j).2 ∧ EdgeP bs (spanL bs.length L i j).1 ∧ EdgeP bs (spanL bs.length L i j).2 ∧ (decide ((i : Int) < (j : Int)) == decide ((spanL bs.length L i j).1 < (spanL bs.length L i j).2)) = true := by
  have hmin : ∀ P : List It, (∀ x ∈ P, x ∈ L) → EdgeP bs (minS bs.length P) := fun P hP => by
    rcases minS_of (bs.length : Int) P with e | ⟨x, hx, e⟩
    · left; exact e
    · obtain ⟨y, hy, h1, _⟩ := hd x (hP x hx)
      rw [e, h1]
      exact edge_s hy
  by_cases e : i = j
  · subst e
    have hsp : spanL bs.length L i i = (minS bs.length (L.drop i), minS bs.length (L.drop i)) := by unfold spanL; rw [if_neg (by omega), if_pos rfl]; rfl
    rw [hsp]
    refine ⟨Int.le_refl _, hmin _ (fun x hx => List.mem_of_mem_drop hx), hmin _ (fun x hx => List.mem_of_mem_drop hx), ?_⟩
    simp
  · have hsp : spanL bs.length L i j = (minS bs.length ((L.take j).drop i), maxE 0 ((L.take j).drop i)) := by unfold spanL; rw [if_neg (by omega), if_neg (by omega)]; rfl
    rw [hsp]
    have hmem : ∀ x ∈ (L.take j).drop i, x ∈ L := fun x hx => List.mem_of_mem_take (List.mem_of_mem_drop hx)
    have hpl : ((L.take j).drop i).length = j - i := by rw [List.length_drop, List.length_take]; omega
    generalize (L.take j).drop i = P at *
    obtain ⟨x, hx⟩ : ∃ x, x ∈ P := by
      cases P with
      | nil => simp at hpl; omega
      | cons x P => exact ⟨x, List.mem_cons_self⟩
    have h1 := minS_mem (bs.length : Int) P x hx
    have h2 := maxE_mem 0 P x hx
    have h3 := hm x (hmem x hx)
    have hmax : EdgeP bs (maxE 0 P) := by
      rcases maxE_of 0 P with e | ⟨z, hz, e⟩
      · omega
      · obtain ⟨y, hy, _, h5⟩ := hd z (hmem z hz)
        rw [e, h5]
        exact edge_e hy
    refine ⟨by show minS _ P ≤ maxE 0 P; omega, hmin P hmem, hmax, ?_⟩
    have d1 : decide ((i : Int) < (j : Int)) = true := by rw [decide_eq_true_eq]; omega
    have d2 : decide (minS (bs.length : Int) P < maxE 0 P) = true := by rw [decide_eq_true_eq]; omega
    show (decide ((i : Int) < (j : Int)) == decide (minS (bs.length : Int) P < maxE 0 P)) = true
    rw [d1, d2]
    rfl
theorem at_fn (w : World) (b : Nat) (a : Int) (hc : w.cell? ⟨b, 0, none⟩ = some (.int .i64 a)) : ItFn w (.func (.func 39) #[] #[.pointer (some ⟨b, 0, none⟩)]) (fun y => y.s == a) := by
  refine ⟨_, _, rfl, (fun args W => by simp [go_sem]), fun y W hW => ?_⟩
  have hba := alloc_below W (Obj.cells #[.int .i64 y.r, .int .i64 y.s, .int .i64 y.e] 25)
  have c1 := cell_later hba (cell_later hW hc)
  show Calls Tryz.prog 39 #[.agg #[.int .i64 y.r, .int .i64 y.s, .int .i64 y.e], .pointer (some ⟨b, 0, none⟩)] W fun e W' => e = .returned (.bool (y.s == a)) ∧ Below W.heap.size W W'
  have HB := Lib.hid hba
  clear hba hW hc
  cases h1 : y.s == a
  all_goals
    go_enter Tryz.func39, Tryz.ntmps39
    go_wp2_with fail
    go_ret
    exact ⟨rfl, HB.out⟩
abbrev dsEA : List (Option Tmp) := [some 4, some 5, some 6, some 7, some 8, some 9, some 10, some 11, some 12, some 13, some 14, some 15, some 16, some 17, some 18, some 19, some 3]
abbrev needsEA : List (Nat × Nat) := [(2, 1), (3, 2), (4, 3), (5, 4), (6, 0), (6, 5), (7, 6), (8, 7), (9, 8), (9, 7), (10, 9), (10, 7), (11, 10), (11, 7), (12, 11), (12, 7), (13, 7), (14, 12), (14, 13), (14, 7), (15, 7), (15, 14), (16, 15)]
abbrev opsEA : List Op := [.load 3 (.tmp 2), .load 55 (.tmp 1), .nilCheck (.tmp 5), .fieldAddr 61 (.tmp 6) 0, .load 53 (.tmp 7), .call { callee := .builtin .len, args := #[.tmp 8], argTypes := #[53] }, .binOp .eql 3 (.tmp 4) (.tmp 9) 3, .move (.tmp 10), .load 55 (.tmp 1), .nilCheck (.tmp 12), .fieldAddr 61 (.tmp 13) 0, .load 53 (.tmp 14), .call { callee := .value (.func 38), args := #[.tmp 15], argTypes := #[53] }, .makeFunc (.func 39) #[] #[.tmp 2], .call { callee := .value (.func 20), args := #[.tmp 16, .tmp 17], argTypes := #[22, 36] }, .pick (.tmp 11) (.const (.bool true)) (.tmp 18), .assign (.tmp 19)]
abbrev gsEA : List (Option (Nat × Bool)) := [none, none, none, none, none, none, none, none, some (7, false), some (7, false), some (7, false), some (7, false), some (7, false), some (7, false), some (7, false), none, none]
def relEA (q c b2 n cb : Nat) (Ab : Option Addr) (z : Int) : Nat → Value → World → Prop := fun kx vx W => match kx with
  | 0 => vx = .int .i64 z
  | 1 => vx = .pointer (some ⟨q, 0, none⟩)
  | 2 => vx = .pointer (some ⟨q, 0, none⟩)
  | 3 => vx = .pointer (some ⟨q, 0, none⟩)
  | 4 => vx = .slice Ab n cb
  | 5 => vx = .int .i64 (n : Nat)
  | 6 => vx = .bool true
  | 7 => vx = .bool true
  | 8 => vx = undef
  | 9 => vx = undef
  | 10 => vx = undef
  | 11 => vx = undef
  | 12 => vx = undef
  | 13 => vx = undef
  | 14 => vx = undef
  | 15 => vx = .bool true
  | 16 => vx = .bool true
  | _ => True
set_option maxHeartbeats 1600000 in
theorem regionEA (a : Act) (ops : Array Oper) (rid : Nat) (Q : Exit → Act → World → Prop) (w : World) (q c b2 n cb : Nat) (Ab : Option Addr) (z : Int) (hops : ops.toList.map (·.op) = opsEA) (hgs : ops.toList.map (·.guard) = gsEA) (hok : dagOkG ops dsEA = true) (hnd : needsOk2 ops needsEA = true) (hsz : 20 ≤ a.tmps.size)
    (h1 : a.tmps.getD 1 undef = .pointer (some ⟨c, 0, none⟩))
    (h2 : a.tmps.getD 2 undef = .pointer (some ⟨b2, 0, none⟩))
    (hk0 : w.cell? ⟨b2, 0, none⟩ = some (.int .i64 z)) (hk1 : w.cell? ⟨c, 0, none⟩ = some (.pointer (some ⟨q, 0, none⟩))) (hk2 : w.cell? ⟨q, 0, none⟩ = some (.slice Ab n cb)) (ha : z = (n : Int))
    (hend : ∀ vs W, (fun W => Below w.heap.size w W) W → (∀ j, j < 17 → relEA q c b2 n cb Ab z j (vs j) W) → Q .normal { a with tmps := frS (fun j => decide (j < 17)) vs 0 dsEA a.tmps } W) :
    (Code.region rid ops true).wp Tryz.prog Q a w := by
  have hlen : ops.size = 17 := by have := congrArg List.length hops; simpa using this
  have hop : ∀ (i : Nat) (o : Oper), ops[i]? = some o → ∀ x, opsEA[i]? = some x → o.op = x := by
    intro i o ho x hx
    rw [← hops, List.getElem?_map, Array.getElem?_toList, ho] at hx
    simpa using hx
  have hgu : ∀ (i : Nat) (o : Oper), ops[i]? = some o → ∀ x, gsEA[i]? = some x → o.guard = x := by
    intro i o ho x hx
    rw [← hgs, List.getElem?_map, Array.getElem?_toList, ho] at hx
    simpa using hx
  rw [← hlen] at hend
  refine wp_region_rel (by kernel_rfl) dsEA hok (fun t ht => Nat.lt_of_lt_of_le (of_decide_eq_true (List.all_eq_true.1 (show dsEA.all (fun d => match d with | some t => decide (t < 20) | none => true) = true from rfl) _ ht)) hsz) (relEA q c b2 n cb Ab z) (fun W => Below w.heap.size w W) ?_ ?_ ?_ hend
  · intro i v W W' h hb
    unfold relEA at h ⊢
    split at h
    · exact h
    · exact h
    · exact h
    · exact h
    · exact h
    · exact h
    · exact h
    · exact h
    · exact h
    · exact h
    · exact h
    · exact h
    · exact h
    · exact h
    · exact h
    · exact h
    · exact h
    · exact h
  · exact ⟨rfl, rfl, rfl, Nat.le_refl _, fun _ _ => rfl⟩
  intro kx o ho ρ W hb hρ hold hold2 hcon hfun _
  have hkx : kx < 17 := by rw [← hlen]; exact (Array.getElem?_eq_some_iff.1 ho).1
  have e1 : ρ (.tmp 1) = .pointer (some ⟨c, 0, none⟩) := (hold 1 (by decide)).trans h1
  have e2 : ρ (.tmp 2) = .pointer (some ⟨b2, 0, none⟩) := (hold 2 (by decide)).trans h2
  match kx, hkx with
  | 0, _ =>
    have hg := hgu 0 o ho _ rfl
    have ho' := hop 0 o ho _ rfl
    simp only [hg]
    have c0 := cell_later hb hk0
    exact .inl ⟨_, rfl, .inl (by unfold execOp; rw [ho']; go_simp)⟩
  | 1, _ =>
    have hg := hgu 1 o ho _ rfl
    have ho' := hop 1 o ho _ rfl
    simp only [hg]
    have c0 := cell_later hb hk1
    exact .inl ⟨_, rfl, .inl (by unfold execOp; rw [ho']; go_simp)⟩
  | 2, _ =>
    have hg := hgu 2 o ho _ rfl
    have ho' := hop 2 o ho _ rfl
    simp only [hg]
    have q5 : ρ (.tmp 5) = .pointer (some ⟨q, 0, none⟩) := hρ 1 (needs2_get hnd 2 1 (by decide)) 5 rfl
    exact .inl ⟨_, rfl, .inl (by unfold execOp; rw [ho']; go_simp)⟩
  | 3, _ =>
    have hg := hgu 3 o ho _ rfl
    have ho' := hop 3 o ho _ rfl
    simp only [hg]
    have q6 : ρ (.tmp 6) = .pointer (some ⟨q, 0, none⟩) := hρ 2 (needs2_get hnd 3 2 (by decide)) 6 rfl
    exact .inl ⟨_, rfl, .inl (by unfold execOp; rw [ho']; go_simp)⟩
  | 4, _ =>
    have hg := hgu 4 o ho _ rfl
    have ho' := hop 4 o ho _ rfl
    simp only [hg]
    have q7 : ρ (.tmp 7) = .pointer (some ⟨q, 0, none⟩) := hρ 3 (needs2_get hnd 4 3 (by decide)) 7 rfl
    have c0 := cell_later hb hk2
    exact .inl ⟨_, rfl, .inl (by unfold execOp; rw [ho']; go_simp)⟩
  | 5, _ =>
    have hg := hgu 5 o ho _ rfl
    have ho' := hop 5 o ho _ rfl
    simp only [hg]
    have q8 : ρ (.tmp 8) = .slice Ab n cb := hρ 4 (needs2_get hnd 5 4 (by decide)) 8 rfl
    exact .inl ⟨_, rfl, .inl (by unfold execOp; rw [ho']; go_simp)⟩
  | 6, _ =>
    have hg := hgu 6 o ho _ rfl
    have ho' := hop 6 o ho _ rfl
    simp only [hg]
    have q4 : ρ (.tmp 4) = .int .i64 z := hρ 0 (needs2_get hnd 6 0 (by decide)) 4 rfl
    have q9 : ρ (.tmp 9) = .int .i64 (n : Nat) := hρ 5 (needs2_get hnd 6 5 (by decide)) 9 rfl
    have d : (z == (n : Int)) = true := by rw [beq_iff_eq]; exact ha
    exact .inl ⟨_, rfl, .inl (by unfold execOp; rw [ho']; go_simp)⟩
  | 7, _ =>
    have hg := hgu 7 o ho _ rfl
    have ho' := hop 7 o ho _ rfl
    simp only [hg]
    have q10 : ρ (.tmp 10) = .bool true := hρ 6 (needs2_get hnd 7 6 (by decide)) 10 rfl
    exact .inl ⟨_, rfl, .inl (by unfold execOp; rw [ho']; go_simp)⟩
  | 8, _ =>
    have hg := hgu 8 o ho _ rfl
    have ho' := hop 8 o ho _ rfl
    simp only [hg]
    intro t ht
    obtain rfl : 11 = t := by simpa [dsEA] using ht
    have qg : ρ (.tmp 11) = .bool true := hρ 7 (needs2_get hnd 8 7 (by decide)) 11 rfl
    refine ⟨fun hq => absurd (qg.symm.trans hq) (by simp), fun _ => rfl⟩
  | 9, _ =>
    have hg := hgu 9 o ho _ rfl
    have ho' := hop 9 o ho _ rfl
    simp only [hg]
    have q12 : ρ (.tmp 12) = undef := hρ 8 (needs2_get hnd 9 8 (by decide)) 12 rfl
    intro t ht
    obtain rfl : 11 = t := by simpa [dsEA] using ht
    have qg : ρ (.tmp 11) = .bool true := hρ 7 (needs2_get hnd 9 7 (by decide)) 11 rfl
    refine ⟨fun hq => absurd (qg.symm.trans hq) (by simp), fun _ => rfl⟩
  | 10, _ =>
    have hg := hgu 10 o ho _ rfl
    have ho' := hop 10 o ho _ rfl
    simp only [hg]
    have q13 : ρ (.tmp 13) = undef := hρ 9 (needs2_get hnd 10 9 (by decide)) 13 rfl
    intro t ht
    obtain rfl : 11 = t := by simpa [dsEA] using ht
    have qg : ρ (.tmp 11) = .bool true := hρ 7 (needs2_get hnd 10 7 (by decide)) 11 rfl
    refine ⟨fun hq => absurd (qg.symm.trans hq) (by simp), fun _ => rfl⟩
  | 11, _ =>
    have hg := hgu 11 o ho _ rfl
    have ho' := hop 11 o ho _ rfl
    simp only [hg]
    have q14 : ρ (.tmp 14) = undef := hρ 10 (needs2_get hnd 11 10 (by decide)) 14 rfl
    intro t ht
    obtain rfl : 11 = t := by simpa [dsEA] using ht
    have qg : ρ (.tmp 11) = .bool true := hρ 7 (needs2_get hnd 11 7 (by decide)) 11 rfl
    refine ⟨fun hq => absurd (qg.symm.trans hq) (by simp), fun _ => rfl⟩
  | 12, _ =>
    have hg := hgu 12 o ho _ rfl
    have ho' := hop 12 o ho _ rfl
    simp only [hg]
    have q15 : ρ (.tmp 15) = undef := hρ 11 (needs2_get hnd 12 11 (by decide)) 15 rfl
    intro t ht
    obtain rfl : 11 = t := by simpa [dsEA] using ht
    have qg : ρ (.tmp 11) = .bool true := hρ 7 (needs2_get hnd 12 7 (by decide)) 11 rfl
    refine ⟨fun hq => absurd (qg.symm.trans hq) (by simp), fun _ => rfl⟩
  | 13, _ =>
    have hg := hgu 13 o ho _ rfl
    have ho' := hop 13 o ho _ rfl
    simp only [hg]
    intro t ht
    obtain rfl : 11 = t := by simpa [dsEA] using ht
    have qg : ρ (.tmp 11) = .bool true := hρ 7 (needs2_get hnd 13 7 (by decide)) 11 rfl
    refine ⟨fun hq => absurd (qg.symm.trans hq) (by simp), fun _ => rfl⟩
  | 14, _ =>
    have hg := hgu 14 o ho _ rfl
    have ho' := hop 14 o ho _ rfl
    simp only [hg]
    have q16 : ρ (.tmp 16) = undef := hρ 12 (needs2_get hnd 14 12 (by decide)) 16 rfl
    have q17 : ρ (.tmp 17) = undef := hρ 13 (needs2_get hnd 14 13 (by decide)) 17 rfl
    intro t ht
    obtain rfl : 11 = t := by simpa [dsEA] using ht
    have qg : ρ (.tmp 11) = .bool true := hρ 7 (needs2_get hnd 14 7 (by decide)) 11 rfl
    refine ⟨fun hq => absurd (qg.symm.trans hq) (by simp), fun _ => rfl⟩
  | 15, _ =>
    have hg := hgu 15 o ho _ rfl
    have ho' := hop 15 o ho _ rfl
    simp only [hg]
    have q11 : ρ (.tmp 11) = .bool true := hρ 7 (needs2_get hnd 15 7 (by decide)) 11 rfl
    have q18 : ρ (.tmp 18) = undef := hρ 14 (needs2_get hnd 15 14 (by decide)) 18 rfl
    exact .inl ⟨_, rfl, .inl (by unfold execOp; rw [ho']; go_simp)⟩
  | 16, _ =>
    have hg := hgu 16 o ho _ rfl
    have ho' := hop 16 o ho _ rfl
    simp only [hg]
    have q19 : ρ (.tmp 19) = .bool true := hρ 15 (needs2_get hnd 16 15 (by decide)) 19 rfl
    exact .inl ⟨_, rfl, .inl (by unfold execOp; rw [ho']; go_simp)⟩
  | nx + 17, hx => exact absurd hx (by omega)
abbrev dsEB : List (Option Tmp) := [some 4, some 5, some 6, some 7, some 8, some 9, some 10, some 11, some 12, some 13, some 14, some 15, some 16, some 17, some 18, some 19, some 3]
abbrev needsEB : List (Nat × Nat) := [(2, 1), (3, 2), (4, 3), (5, 4), (6, 0), (6, 5), (7, 6), (8, 7), (9, 8), (9, 7), (10, 9), (10, 7), (11, 10), (11, 7), (12, 11), (12, 7), (13, 7), (14, 12), (14, 13), (14, 7), (15, 7), (15, 14), (16, 15)]
abbrev opsEB : List Op := [.load 3 (.tmp 2), .load 55 (.tmp 1), .nilCheck (.tmp 5), .fieldAddr 61 (.tmp 6) 0, .load 53 (.tmp 7), .call { callee := .builtin .len, args := #[.tmp 8], argTypes := #[53] }, .binOp .eql 3 (.tmp 4) (.tmp 9) 3, .move (.tmp 10), .load 55 (.tmp 1), .nilCheck (.tmp 12), .fieldAddr 61 (.tmp 13) 0, .load 53 (.tmp 14), .call { callee := .value (.func 38), args := #[.tmp 15], argTypes := #[53] }, .makeFunc (.func 39) #[] #[.tmp 2], .call { callee := .value (.func 20), args := #[.tmp 16, .tmp 17], argTypes := #[22, 36] }, .pick (.tmp 11) (.const (.bool true)) (.tmp 18), .assign (.tmp 19)]
abbrev gsEB : List (Option (Nat × Bool)) := [none, none, none, none, none, none, none, none, some (7, false), some (7, false), some (7, false), some (7, false), some (7, false), some (7, false), some (7, false), none, none]
def relEB (q c b2 n cb : Nat) (Ab : Option Addr) (z : Int) (bs : List Nat) : Nat → Value → World → Prop := fun kx vx W => match kx with
  | 0 => vx = .int .i64 z
  | 1 => vx = .pointer (some ⟨q, 0, none⟩)
  | 2 => vx = .pointer (some ⟨q, 0, none⟩)
  | 3 => vx = .pointer (some ⟨q, 0, none⟩)
  | 4 => vx = .slice Ab n cb
  | 5 => vx = .int .i64 (n : Nat)
  | 6 => vx = .bool false
  | 7 => vx = .bool false
  | 8 => vx = .pointer (some ⟨q, 0, none⟩)
  | 9 => vx = .pointer (some ⟨q, 0, none⟩)
  | 10 => vx = .pointer (some ⟨q, 0, none⟩)
  | 11 => vx = .slice Ab n cb
  | 12 => ItsAt W vx (dec bs 0)
  | 13 => vx = .func (.func 39) #[] #[.pointer (some ⟨b2, 0, none⟩)]
  | 14 => vx = .bool true
  | 15 => vx = .bool true
  | 16 => vx = .bool true
  | _ => True
set_option maxHeartbeats 1600000 in
theorem regionEB (a : Act) (ops : Array Oper) (rid : Nat) (Q : Exit → Act → World → Prop) (w : World) (q c b2 n cb : Nat) (Ab : Option Addr) (z : Int) (bs : List Nat) (hops : ops.toList.map (·.op) = opsEB) (hgs : ops.toList.map (·.guard) = gsEB) (hok : dagOkG ops dsEB = true) (hnd : needsOk2 ops needsEB = true) (hsz : 20 ≤ a.tmps.size)
    (h1 : a.tmps.getD 1 undef = .pointer (some ⟨c, 0, none⟩))
    (h2 : a.tmps.getD 2 undef = .pointer (some ⟨b2, 0, none⟩))
    (hk0 : w.cell? ⟨b2, 0, none⟩ = some (.int .i64 z)) (hk1 : w.cell? ⟨c, 0, none⟩ = some (.pointer (some ⟨q, 0, none⟩))) (hk2 : w.cell? ⟨q, 0, none⟩ = some (.slice Ab n cb)) (ha : z ≠ (n : Int)) (hbs : BytesAt w (.slice Ab n cb) bs) (hbl : bs.length ≤ 1000000) (hany : (dec bs 0).any (fun y => y.s == z) = true)
    (hend : ∀ vs W, (fun W => Below w.heap.size w W) W → (∀ j, j < 17 → relEB q c b2 n cb Ab z bs j (vs j) W) → Q .normal { a with tmps := frS (fun j => decide (j < 17)) vs 0 dsEB a.tmps } W) :
    (Code.region rid ops true).wp Tryz.prog Q a w := by
  have hlen : ops.size = 17 := by have := congrArg List.length hops; simpa using this
  have hop : ∀ (i : Nat) (o : Oper), ops[i]? = some o → ∀ x, opsEB[i]? = some x → o.op = x := by
    intro i o ho x hx
    rw [← hops, List.getElem?_map, Array.getElem?_toList, ho] at hx
    simpa using hx
  have hgu : ∀ (i : Nat) (o : Oper), ops[i]? = some o → ∀ x, gsEB[i]? = some x → o.guard = x := by
    intro i o ho x hx
    rw [← hgs, List.getElem?_map, Array.getElem?_toList, ho] at hx
    simpa using hx
  rw [← hlen] at hend
  refine wp_region_rel (by kernel_rfl) dsEB hok (fun t ht => Nat.lt_of_lt_of_le (of_decide_eq_true (List.all_eq_true.1 (show dsEB.all (fun d => match d with | some t => decide (t < 20) | none => true) = true from rfl) _ ht)) hsz) (relEB q c b2 n cb Ab z bs) (fun W => Below w.heap.size w W) ?_ ?_ ?_ hend
  · intro i v W W' h hb
    unfold relEB at h ⊢
    split at h
    · exact h
    · exact h
    · exact h
    · exact h
    · exact h
    · exact h
    · exact h
    · exact h
    · exact h
    · exact h
    · exact h
    · exact h
    · exact h.below hb
    · exact h
    · exact h
    · exact h
    · exact h
    · exact h
  · exact ⟨rfl, rfl, rfl, Nat.le_refl _, fun _ _ => rfl⟩
  intro kx o ho ρ W hb hρ hold hold2 hcon hfun _
  have hkx : kx < 17 := by rw [← hlen]; exact (Array.getElem?_eq_some_iff.1 ho).1
  have e1 : ρ (.tmp 1) = .pointer (some ⟨c, 0, none⟩) := (hold 1 (by decide)).trans h1
  have e2 : ρ (.tmp 2) = .pointer (some ⟨b2, 0, none⟩) := (hold 2 (by decide)).trans h2
  match kx, hkx with
  | 0, _ =>
    have hg := hgu 0 o ho _ rfl
    have ho' := hop 0 o ho _ rfl
    simp only [hg]
    have c0 := cell_later hb hk0
    exact .inl ⟨_, rfl, .inl (by unfold execOp; rw [ho']; go_simp)⟩
  | 1, _ =>
    have hg := hgu 1 o ho _ rfl
    have ho' := hop 1 o ho _ rfl
    simp only [hg]
    have c0 := cell_later hb hk1
    exact .inl ⟨_, rfl, .inl (by unfold execOp; rw [ho']; go_simp)⟩
  | 2, _ =>
    have hg := hgu 2 o ho _ rfl
    have ho' := hop 2 o ho _ rfl
    simp only [hg]
    have q5 : ρ (.tmp 5) = .pointer (some ⟨q, 0, none⟩) := hρ 1 (needs2_get hnd 2 1 (by decide)) 5 rfl
    exact .inl ⟨_, rfl, .inl (by unfold execOp; rw [ho']; go_simp)⟩
  | 3, _ =>
    have hg := hgu 3 o ho _ rfl
    have ho' := hop 3 o ho _ rfl
    simp only [hg]
    have q6 : ρ (.tmp 6) = .pointer (some ⟨q, 0, none⟩) := hρ 2 (needs2_get hnd 3 2 (by decide)) 6 rfl
    exact .inl ⟨_, rfl, .inl (by unfold execOp; rw [ho']; go_simp)⟩
  | 4, _ =>
    have hg := hgu 4 o ho _ rfl
    have ho' := hop 4 o ho _ rfl
    simp only [hg]
    have q7 : ρ (.tmp 7) = .pointer (some ⟨q, 0, none⟩) := hρ 3 (needs2_get hnd 4 3 (by decide)) 7 rfl
    have c0 := cell_later hb hk2
    exact .inl ⟨_, rfl, .inl (by unfold execOp; rw [ho']; go_simp)⟩
  | 5, _ =>
    have hg := hgu 5 o ho _ rfl
    have ho' := hop 5 o ho _ rfl
    simp only [hg]
    have q8 : ρ (.tmp 8) = .slice Ab n cb := hρ 4 (needs2_get hnd 5 4 (by decide)) 8 rfl
    exact .inl ⟨_, rfl, .inl (by unfold execOp; rw [ho']; go_simp)⟩
  | 6, _ =>
    have hg := hgu 6 o ho _ rfl
    have ho' := hop 6 o ho _ rfl
    simp only [hg]
    have q4 : ρ (.tmp 4) = .int .i64 z := hρ 0 (needs2_get hnd 6 0 (by decide)) 4 rfl
    have q9 : ρ (.tmp 9) = .int .i64 (n : Nat) := hρ 5 (needs2_get hnd 6 5 (by decide)) 9 rfl
    have d : (z == (n : Int)) = false := by rw [beq_eq_false_iff_ne]; exact ha
    exact .inl ⟨_, rfl, .inl (by unfold execOp; rw [ho']; go_simp)⟩
  | 7, _ =>
    have hg := hgu 7 o ho _ rfl
    have ho' := hop 7 o ho _ rfl
    simp only [hg]
    have q10 : ρ (.tmp 10) = .bool false := hρ 6 (needs2_get hnd 7 6 (by decide)) 10 rfl
    exact .inl ⟨_, rfl, .inl (by unfold execOp; rw [ho']; go_simp)⟩
  | 8, _ =>
    have hg := hgu 8 o ho _ rfl
    have ho' := hop 8 o ho _ rfl
    simp only [hg]
    intro t ht
    obtain rfl : 11 = t := by simpa [dsEB] using ht
    have qg : ρ (.tmp 11) = .bool false := hρ 7 (needs2_get hnd 8 7 (by decide)) 11 rfl
    refine ⟨fun _ => ?_, fun hq => absurd qg hq⟩
    have c0 := cell_later hb hk1
    exact .inl ⟨_, rfl, .inl (by unfold execOp; rw [ho']; go_simp)⟩
  | 9, _ =>
    have hg := hgu 9 o ho _ rfl
    have ho' := hop 9 o ho _ rfl
    simp only [hg]
    have q12 : ρ (.tmp 12) = .pointer (some ⟨q, 0, none⟩) := hρ 8 (needs2_get hnd 9 8 (by decide)) 12 rfl
    intro t ht
    obtain rfl : 11 = t := by simpa [dsEB] using ht
    have qg : ρ (.tmp 11) = .bool false := hρ 7 (needs2_get hnd 9 7 (by decide)) 11 rfl
    refine ⟨fun _ => ?_, fun hq => absurd qg hq⟩
    exact .inl ⟨_, rfl, .inl (by unfold execOp; rw [ho']; go_simp)⟩
  | 10, _ =>
    have hg := hgu 10 o ho _ rfl
    have ho' := hop 10 o ho _ rfl
    simp only [hg]
    have q13 : ρ (.tmp 13) = .pointer (some ⟨q, 0, none⟩) := hρ 9 (needs2_get hnd 10 9 (by decide)) 13 rfl
    intro t ht
    obtain rfl : 11 = t := by simpa [dsEB] using ht
    have qg : ρ (.tmp 11) = .bool false := hρ 7 (needs2_get hnd 10 7 (by decide)) 11 rfl
    refine ⟨fun _ => ?_, fun hq => absurd qg hq⟩
    exact .inl ⟨_, rfl, .inl (by unfold execOp; rw [ho']; go_simp)⟩
  | 11, _ =>
    have hg := hgu 11 o ho _ rfl
    have ho' := hop 11 o ho _ rfl
    simp only [hg]
    have q14 : ρ (.tmp 14) = .pointer (some ⟨q, 0, none⟩) := hρ 10 (needs2_get hnd 11 10 (by decide)) 14 rfl
    intro t ht
    obtain rfl : 11 = t := by simpa [dsEB] using ht
    have qg : ρ (.tmp 11) = .bool false := hρ 7 (needs2_get hnd 11 7 (by decide)) 11 rfl
    refine ⟨fun _ => ?_, fun hq => absurd qg hq⟩
    have c0 := cell_later hb hk2
    exact .inl ⟨_, rfl, .inl (by unfold execOp; rw [ho']; go_simp)⟩
  | 12, _ =>
    have hg := hgu 12 o ho _ rfl
    have ho' := hop 12 o ho _ rfl
    simp only [hg]
    have q15 : ρ (.tmp 15) = .slice Ab n cb := hρ 11 (needs2_get hnd 12 11 (by decide)) 15 rfl
    intro t ht
    obtain rfl : 11 = t := by simpa [dsEB] using ht
    have qg : ρ (.tmp 11) = .bool false := hρ 7 (needs2_get hnd 12 7 (by decide)) 11 rfl
    refine ⟨fun _ => ?_, fun hq => absurd qg hq⟩
    refine .inr (.inr ⟨38, #[.slice Ab n cb], ?_, ?_⟩)
    · unfold execOp
      rw [ho']
      simp [go_sem, hfun, q15, resolve, Act.eval]
    · refine (decode01_walk W _ bs (hbs.below hb) hbl).mono ?_
      rintro e W' ⟨v', rfl, hv', hb'⟩
      exact ⟨v', rfl, hb.trans (hb'.mono hb.size), hb', ItsAt.of_own hv'⟩
  | 13, _ =>
    have hg := hgu 13 o ho _ rfl
    have ho' := hop 13 o ho _ rfl
    simp only [hg]
    intro t ht
    obtain rfl : 11 = t := by simpa [dsEB] using ht
    have qg : ρ (.tmp 11) = .bool false := hρ 7 (needs2_get hnd 13 7 (by decide)) 11 rfl
    refine ⟨fun _ => ?_, fun hq => absurd qg hq⟩
    exact .inl ⟨_, rfl, .inl (by unfold execOp; rw [ho']; go_simp)⟩
  | 14, _ =>
    have hg := hgu 14 o ho _ rfl
    have ho' := hop 14 o ho _ rfl
    simp only [hg]
    have q16 : ItsAt W (ρ (.tmp 16)) (dec bs 0) := hρ 12 (needs2_get hnd 14 12 (by decide)) 16 rfl
    have q17 : ρ (.tmp 17) = .func (.func 39) #[] #[.pointer (some ⟨b2, 0, none⟩)] := hρ 13 (needs2_get hnd 14 13 (by decide)) 17 rfl
    intro t ht
    obtain rfl : 11 = t := by simpa [dsEB] using ht
    have qg : ρ (.tmp 11) = .bool false := hρ 7 (needs2_get hnd 14 7 (by decide)) 11 rfl
    refine ⟨fun _ => ?_, fun hq => absurd qg hq⟩
    refine .inr (.inr ⟨20, #[ρ (.tmp 16), .func (.func 39) #[] #[.pointer (some ⟨b2, 0, none⟩)]], ?_, ?_⟩)
    · unfold execOp
      rw [ho']
      simp [go_sem, hfun, q17, resolve, Act.eval]
    · refine (containsit_walk W _ _ (dec bs 0) _ q16 (at_fn W b2 z (cell_later hb hk0))).mono ?_
      rintro e W' ⟨rfl, hb'⟩
      rw [hany]
      exact ⟨_, rfl, hb.trans (hb'.mono hb.size), hb', rfl⟩
  | 15, _ =>
    have hg := hgu 15 o ho _ rfl
    have ho' := hop 15 o ho _ rfl
    simp only [hg]
    have q11 : ρ (.tmp 11) = .bool false := hρ 7 (needs2_get hnd 15 7 (by decide)) 11 rfl
    have q18 : ρ (.tmp 18) = .bool true := hρ 14 (needs2_get hnd 15 14 (by decide)) 18 rfl
    exact .inl ⟨_, rfl, .inl (by unfold execOp; rw [ho']; go_simp)⟩
  | 16, _ =>
    have hg := hgu 16 o ho _ rfl
    have ho' := hop 16 o ho _ rfl
    simp only [hg]
    have q19 : ρ (.tmp 19) = .bool true := hρ 15 (needs2_get hnd 16 15 (by decide)) 19 rfl
    exact .inl ⟨_, rfl, .inl (by unfold execOp; rw [ho']; go_simp)⟩
  | nx + 17, hx => exact absurd hx (by omega)
set_option maxRecDepth 100000 in
theorem edge_walk {w : World} {B q c : Nat} {bs : List Nat} {L : List It} (h : RTextAt w B q bs L) (hc : w.cell? ⟨c, 0, none⟩ = some (.pointer (some ⟨q, 0, none⟩))) (hbl : bs.length ≤ 100000) (a : Int) (he : EdgeP bs a) : Calls Tryz.prog 37 #[.int .i64 a, .pointer (some ⟨c, 0, none⟩)] w fun e w' => e = .returned (.bool true) ∧ Below w.heap.size w w' := by
  obtain ⟨_, hb255, vb, vl, h2, h3, _⟩ := h
  obtain ⟨Ab, cb, rfl⟩ := own_slice h3
  have hba := alloc_below w (Obj.cells #[.int .i64 a] 3)
  obtain ⟨W0, hW0⟩ : ∃ W, W = w.alloc (Obj.cells #[.int .i64 a] 3) := ⟨_, rfl⟩
  have ha0 : W0.cell? ⟨w.heap.size, 0, none⟩ = some (.int .i64 a) := by rw [hW0]; exact (cells_of_row (row_new w _)).1 0
  rw [← hW0] at hba
  have K0 := Lib.hid ha0
  have K1 := Lib.hid (cell_later hba hc)
  have K2 := Lib.hid ((h2.below hba).cell 0)
  have HBS := Lib.hid ((BytesAt.of_own h3 hb255).below hba)
  have HB := Lib.hid hba
  clear h2 h3 ha0 hba hc hb255
  by_cases ha : a = (bs.length : Nat)
  · have HA := Lib.hid ha
    clear he ha
    go_enter Tryz.func37, Tryz.ntmps37
    go_upto_region 1 with fail
    rw [← hW0]
    clear hW0
    go_cut [3] (fun x wx => x = .bool true ∧ Below W0.heap.size W0 wx)
    case first =>
      refine regionEA _ _ _ _ _ q c w.heap.size bs.length cb Ab a rfl rfl (by kernel_rfl) (by kernel_rfl) (by first | simp | exact Nat.le_refl _ | decide) rfl rfl K0.out K1.out K2.out HA.out ?_
      intro V W_ hb_ hV
      have hVa : V 16 = .bool true := hV 16 (by decide)
      have HVa := Lib.hid hVa
      simp [frS, stepS, Exit.then]
      clear hV hVa
      go_wp2_with fail
      go_meet
      case rel => exact ⟨HVa.out, hb_⟩
    case rest =>
    obtain ⟨rfl, hb_⟩ := hcut
    have HB2 := Lib.hid (HB.out.trans (hb_.mono HB.out.size))
    clear hb_
    go_wp2_with fail
    go_ret
    exact ⟨rfl, HB2.out⟩
  · have hany : (dec bs 0).any (fun y => y.s == a) = true := he.resolve_left ha
    have HA := Lib.hid ha
    have HAN := Lib.hid hany
    clear he ha hany
    go_enter Tryz.func37, Tryz.ntmps37
    go_upto_region 1 with fail
    rw [← hW0]
    clear hW0
    go_cut [3] (fun x wx => x = .bool true ∧ Below W0.heap.size W0 wx)
    case first =>
      refine regionEB _ _ _ _ _ q c w.heap.size bs.length cb Ab a bs rfl rfl (by kernel_rfl) (by kernel_rfl) (by first | simp | exact Nat.le_refl _ | decide) rfl rfl K0.out K1.out K2.out HA.out HBS.out (by omega) HAN.out ?_
      intro V W_ hb_ hV
      have hVa : V 16 = .bool true := hV 16 (by decide)
      have HVa := Lib.hid hVa
      simp [frS, stepS, Exit.then]
      clear hV hVa
      go_wp2_with fail
      go_meet
      case rel => exact ⟨HVa.out, hb_⟩
    case rest =>
    obtain ⟨rfl, hb_⟩ := hcut
    have HB2 := Lib.hid (HB.out.trans (hb_.mono HB.out.size))
    clear hb_
    go_wp2_with fail
    go_ret
    exact ⟨rfl, HB2.out⟩
theorem u64_emodE (a : Int) : IntKind.u64.wrap a = a % 18446744073709551616 := by simp [IntKind.wrap, IntKind.bits, IntKind.signed]
theorem modN (p : Int) (n : Nat) (hn : n ≤ 100000) : ∃ q : Nat, q ≤ n ∧ IntKind.u64.wrap ((n : Int) + 1) = (n : Int) + 1 ∧ (IntKind.u64.wrap p).tmod ((n : Int) + 1) = q := by
  have e1 : IntKind.u64.wrap ((n : Int) + 1) = (n : Int) + 1 := by rw [u64_emodE]; omega
  have h0 : 0 ≤ IntKind.u64.wrap p := by rw [u64_emodE]; exact Int.emod_nonneg _ (by decide)
  generalize IntKind.u64.wrap p = x at *
  rw [Int.tmod_eq_emod_of_nonneg h0]
  have h1 := Int.emod_nonneg x (show ((n : Int) + 1) ≠ 0 by omega)
  have h2 := Int.emod_lt_of_pos x (show (0 : Int) < (n : Int) + 1 by omega)
  generalize x % ((n : Int) + 1) = y at *
  exact ⟨y.toNat, by omega, e1, by omega⟩
set_option maxRecDepth 100000 in
set_option maxHeartbeats 1600000 in
theorem itemsEdges_walk {v0 : Value} {bs : List Nat} (w : World) (h : BytesAt w v0 bs) (canon : Bool) (f t : Int) (hf : (Lit.int .i64 f).wf = true) (ht : (Lit.int .i64 t).wf = true) (hE : Env w) (hT : EnvT w) (hH : Hang w) : Calls Tryz.prog 11 #[v0, .bool canon, .int .i64 f, .int .i64 t] w fun e w' => e = .returned (.bool true) ∧ Below w.heap.size w w' := by
  have HBo := Lib.hid (both_walk h canon hE hT hH)
  have hsl := subj_len canon (bs.take 300) (take300 bs)
  have hcl := take300 bs
  have HM := Lib.hid (subj_mem canon (bs.take 300) (fun b hb => h.byte b (List.mem_of_mem_take hb)))
  have HD := Lib.hid (subj_dec canon (bs.take 300))
  clear h hE hT hH
  go_enter Tryz.func11, Tryz.ntmps11
  go_wp2_with fail
  refine HBo.out.mono ?_
  rintro e w1 hbo
  obtain ⟨p, q, B, B', rfl, hx, hq, hb1⟩ := hbo.get
  generalize subj canon (bs.take 300) = L at *
  generalize bs.take 300 = cs at *
  have hba := alloc_below w1 (Obj.cells #[.pointer (some ⟨q, 0, none⟩)] 55)
  have HX := Lib.hid (hx.below hba)
  have HQ := Lib.hid (hq.below hba)
  have HB := Lib.hid (hb1.trans (hba.mono hb1.size))
  have hk : (w1.alloc (Obj.cells #[.pointer (some ⟨q, 0, none⟩)] 55)).cell? ⟨w1.heap.size, 0, none⟩ = some (.pointer (some ⟨q, 0, none⟩)) := (cells_of_row (row_new w1 _)).1 0
  have HK := Lib.hid hk
  obtain ⟨_, _, vb, vl, h2, h3, h4⟩ := hq.below hba
  obtain ⟨Al, cl, rfl⟩ := own_slice h4
  have c1 := h2.cell 1
  clear hbo hx hq hb1 HBo h2 h3 h4 hba hk
  obtain ⟨i, hi, ei1, ei2⟩ := modN f L.length (by omega)
  obtain ⟨j', hj', ej1, ej2⟩ := modN t (L.length - i) (by omega)
  go_upto_region 2 with fail
  generalize w1.alloc _ = W1 at *
  generalize w1.heap.size = c at *
  have hk := HK.out
  have ej2' : (IntKind.u64.wrap t).tmod ((L.length : Int) - (i : Int) + 1) = (j' : Int) := by
    rw [show (L.length : Int) - (i : Int) + 1 = ((L.length - i : Nat) : Int) + 1 by omega]
    exact ej2
  have hjL : i + j' ≤ L.length := by omega
  clear ej1 ej2
  go_wp2_with fail
  refine (tspan_walk HX.out (by omega) (by omega) (i : Int) ((i : Int) + (j' : Int)) (fun x hx => by have := HM.out x hx; omega)).mono ?_
  rintro e w2 ⟨rfl, hb2⟩
  have hp := edges_pure cs L HD.out HM.out i (i + j') (by omega) hjL
  rw [show (((i + j' : Nat) : Int)) = (i : Int) + (j' : Int) by omega] at hp
  generalize spanL cs.length L (i : Int) ((i : Int) + (j' : Int)) = S at *
  obtain ⟨s1, s2⟩ := S
  unfold spv
  have HP := Lib.hid hp
  have hba := alloc_below w2 (Obj.cells #[.int .i64 s1, .int .i64 s2] 68)
  have HZ0 := Lib.hid (show (w2.alloc (Obj.cells #[.int .i64 s1, .int .i64 s2] 68)).cell? ⟨w2.heap.size, 0, none⟩ = some (.int .i64 s1) from (cells_of_row (row_new w2 _)).1 0)
  have HZ1 := Lib.hid (show (w2.alloc (Obj.cells #[.int .i64 s1, .int .i64 s2] 68)).cell? ⟨w2.heap.size, 1, none⟩ = some (.int .i64 s2) from (cells_of_row (row_new w2 _)).1 1)
  replace HQ := Lib.hid ((HQ.out.below hb2).below hba)
  replace HK := Lib.hid (cell_later hba (cell_later hb2 HK.out))
  replace HB := Lib.hid (HB.out.trans ((hb2.trans (hba.mono hb2.size)).mono HB.out.size))
  have dS : decide (s1 ≤ s2) = true := decide_eq_true hp.1
  clear hb2 hba hk HX HM HD c1 ej2' ei1 ei2 hsl
  obtain ⟨hp1, _, _, hp4⟩ := hp
  by_cases hj0 : j' = 0
  · subst hj0
    have e1 : decide (s1 < s2) = false := by
      have e0 : decide ((i : Int) < (i : Int) + ((0 : Nat) : Int)) = false := by rw [decide_eq_false_iff_not]; omega
      rw [e0] at hp4
      simpa using hp4
    clear hp1 hp4 hjL hj'
    go_upto_region 9 with fail
    generalize w2.alloc _ = W3 at *
    generalize w2.heap.size = d at *
    have z0 := HZ0.out
    have z1 := HZ1.out
    go_wp2_with fail
    refine (edge_walk HQ.out HK.out (by omega) s1 HP.out.2.1).mono ?_
    rintro e w4 ⟨rfl, hb4⟩
    replace z0 := cell_later hb4 HZ0.out
    replace z1 := cell_later hb4 HZ1.out
    replace HK := Lib.hid (cell_later hb4 HK.out)
    replace HQ := Lib.hid (HQ.out.below hb4)
    replace HB := Lib.hid (HB.out.trans (hb4.mono HB.out.size))
    have HZ2 := Lib.hid (And.intro z0 z1)
    clear hb4 HZ0 HZ1
    go_wp2_with fail
    refine (edge_walk HQ.out HK.out (by omega) s2 HP.out.2.2.1).mono ?_
    rintro e w5 ⟨rfl, hb5⟩
    replace z0 := cell_later hb5 HZ2.out.1
    replace z1 := cell_later hb5 HZ2.out.2
    replace HB := Lib.hid (HB.out.trans (hb5.mono HB.out.size))
    clear hb5 HZ2 HK HQ
    go_wp2_with fail
    go_ret
    exact ⟨rfl, HB.out⟩
  · have e1 : decide (s1 < s2) = true := by
      have e0 : decide ((i : Int) < (i : Int) + (j' : Int)) = true := by rw [decide_eq_true_eq]; omega
      rw [e0] at hp4
      simpa using hp4
    have e2 : 0 < j' := by omega
    have e3 : decide ((i : Int) < (i : Int) + (j' : Int)) = true := by rw [decide_eq_true_eq]; omega
    have e4 : (0 : Int) < (j' : Int) := by omega
    clear hp1 hp4
    go_upto_region 9 with fail
    generalize w2.alloc _ = W3 at *
    generalize w2.heap.size = d at *
    have z0 := HZ0.out
    have z1 := HZ1.out
    go_wp2_with fail
    refine (edge_walk HQ.out HK.out (by omega) s1 HP.out.2.1).mono ?_
    rintro e w4 ⟨rfl, hb4⟩
    replace z0 := cell_later hb4 HZ0.out
    replace z1 := cell_later hb4 HZ1.out
    replace HK := Lib.hid (cell_later hb4 HK.out)
    replace HQ := Lib.hid (HQ.out.below hb4)
    replace HB := Lib.hid (HB.out.trans (hb4.mono HB.out.size))
    have HZ2 := Lib.hid (And.intro z0 z1)
    clear hb4 HZ0 HZ1
    go_wp2_with fail
    refine (edge_walk HQ.out HK.out (by omega) s2 HP.out.2.2.1).mono ?_
    rintro e w5 ⟨rfl, hb5⟩
    replace z0 := cell_later hb5 HZ2.out.1
    replace z1 := cell_later hb5 HZ2.out.2
    replace HB := Lib.hid (HB.out.trans (hb5.mono HB.out.size))
    clear hb5 HZ2 HK HQ
    go_wp2_with fail
    go_ret
    exact ⟨rfl, HB.out⟩
end Go.Proofs.YthoegenipbohmaaGreatDoor
