/- word.Edge: the edges of words. The lemma of the region that draws its order is printed by wip/tools/mkedgw.py. -/
import Derived.Test.YtkgomgfhfoomhaaGreatDoorWrdW
import Derived.Deep.DeepCutAuto
namespace Go.Proofs.YtkgomgfhfoomhaaGreatDoor
open Go.RowKit
set_option linter.unusedVariables false
set_option linter.unusedSimpArgs false

abbrev dsE20 : List (Option Tmp) := [some 89, some 90, some 91, some 92, some 93, some 94, some 95, some 96, some 97, some 98, some 99, some 100, some 101, some 102]
abbrev needsE20 : List (Nat × Nat) := [(2, 0), (2, 1), (5, 3), (5, 4), (10, 8), (10, 9), (11, 7), (11, 10), (12, 2), (12, 5), (12, 6), (12, 11), (13, 12)]
abbrev opsE20 : List Op := [.move (.tmp 8), .move (.tmp 12), .call { callee := .value (.tmp 89), args := #[.tmp 90], argTypes := #[3] }, .move (.tmp 8), .move (.tmp 11), .call { callee := .value (.tmp 92), args := #[.tmp 93], argTypes := #[3] }, .move (.tmp 10), .move (.tmp 8), .load 89 (.tmp 7), .move (.tmp 2), .call { callee := .value (.func 74), args := #[.tmp 97, .tmp 98, (.const (.int .i64 1))], argTypes := #[89, 3, 3] }, .call { callee := .value (.tmp 96), args := #[.tmp 99], argTypes := #[3] }, .build 93 #[(0, (.tmp 91)), (1, (.tmp 94)), (2, (.tmp 95)), (3, (.tmp 100))], .call { callee := .value (.func 75), args := #[.tmp 101], argTypes := #[93] }]
abbrev gsE20 : List (Option (Nat × Bool)) := [none, none, none, none, none, none, none, none, none, none, none, none, none, none]
def relE20 (m b7 : Nat) (Φ : Files) (zs : List Int) (v : Value) (B : ByteArray) (p iv fv : Int) : Nat → Value → World → Prop := fun kx vx W => match kx with
  | 0 => vx = .func (.func 71) #[textV m v] #[]
  | 1 => vx = .int .i64 fv
  | 2 => vx = .string ⟨(wOf Φ zs fv).toArray⟩
  | 3 => vx = .func (.func 71) #[textV m v] #[]
  | 4 => vx = .int .i64 iv
  | 5 => vx = .string ⟨(wOf Φ zs iv).toArray⟩
  | 6 => vx = .string B
  | 7 => vx = .func (.func 71) #[textV m v] #[]
  | 8 => vx = textV m v
  | 9 => vx = .int .i64 p
  | 10 => vx = .int .i64 (stepF (wOf Φ zs) zs.length p)
  | 11 => vx = .string ⟨(wOf Φ zs (stepF (wOf Φ zs) zs.length p)).toArray⟩
  | 12 => vx = .agg #[.string ⟨(wOf Φ zs fv).toArray⟩, .string ⟨(wOf Φ zs iv).toArray⟩, .string B, .string ⟨(wOf Φ zs (stepF (wOf Φ zs) zs.length p)).toArray⟩]
  | 13 => vx = .bool (joinedB (wOf Φ zs fv) (wOf Φ zs iv) B.toList (wOf Φ zs (stepF (wOf Φ zs) zs.length p)))
  | _ => True
set_option maxHeartbeats 1600000 in
theorem regionE20 (a : Act) (ops : Array Oper) (rid : Nat) (Q : Exit → Act → World → Prop) (w : World) (m b7 : Nat) (Φ : Files) (zs : List Int) (v : Value) (B : ByteArray) (p iv fv : Int) (hops : ops.toList.map (·.op) = opsE20) (hgs : ops.toList.map (·.guard) = gsE20) (hok : dagOkG ops dsE20 = true) (hnd : needsOk2 ops needsE20 = true) (hsz : 103 ≤ a.tmps.size)
    (h2 : a.tmps.getD 2 undef = .int .i64 p)
    (h7 : a.tmps.getD 7 undef = .pointer (some ⟨b7, 0, none⟩))
    (h8 : a.tmps.getD 8 undef = .func (.func 71) #[textV m v] #[])
    (h10 : a.tmps.getD 10 undef = .string B)
    (h11 : a.tmps.getD 11 undef = .int .i64 iv)
    (h12 : a.tmps.getD 12 undef = .int .i64 fv)
    (ht : TabAt w m Φ) (hfo : FilesOk Φ) (hl : ListAt w v zs) (c0 : w.cell? ⟨b7, 0, none⟩ = some (.pointer (some ⟨m + 3, 0, none⟩))) (c1 : w.cell? ⟨b7, 1, none⟩ = some v) (hp : -1 ≤ p ∧ p < zs.length)
    (hend : ∀ vs W, (fun W => Below w.heap.size w W) W → (∀ j, j < 14 → relE20 m b7 Φ zs v B p iv fv j (vs j) W) → Q .normal { a with tmps := frS (fun j => decide (j < 14)) vs 0 dsE20 a.tmps } W) :
    (Code.region rid ops true).wp Tryz.prog Q a w := by
  have hlen : ops.size = 14 := by have := congrArg List.length hops; simpa using this
  have hop : ∀ (i : Nat) (o : Oper), ops[i]? = some o → ∀ x, opsE20[i]? = some x → o.op = x := by
    intro i o ho x hx
    rw [← hops, List.getElem?_map, Array.getElem?_toList, ho] at hx
    simpa using hx
  have hgu : ∀ (i : Nat) (o : Oper), ops[i]? = some o → ∀ x, gsE20[i]? = some x → o.guard = x := by
    intro i o ho x hx
    rw [← hgs, List.getElem?_map, Array.getElem?_toList, ho] at hx
    simpa using hx
  rw [← hlen] at hend
  refine wp_region_rel (by kernel_rfl) dsE20 hok (fun t ht => Nat.lt_of_lt_of_le (of_decide_eq_true (List.all_eq_true.1 (show dsE20.all (fun d => match d with | some t => decide (t < 103) | none => true) = true from rfl) _ ht)) hsz) (relE20 m b7 Φ zs v B p iv fv) (fun W => Below w.heap.size w W) ?_ ?_ ?_ hend
  · intro i v W W' h hb
    unfold relE20 at h ⊢
    split at h
    · exact h
    · exact h
    · exact h
    · exact h
    · exact h
    · exact h
    · exact h
    · exact h
    · exact h
    · exact h
    · exact h
    · exact h
    · exact h
    · exact h
    · exact h
  · exact ⟨rfl, rfl, rfl, Nat.le_refl _, fun _ _ => rfl⟩
  intro kx o ho ρ W hb hρ hold hold2 hcon hfun _
  have hkx : kx < 14 := by rw [← hlen]; exact (Array.getElem?_eq_some_iff.1 ho).1
  have e2 : ρ (.tmp 2) = .int .i64 p := (hold 2 (by decide)).trans h2
  have e7 : ρ (.tmp 7) = .pointer (some ⟨b7, 0, none⟩) := (hold 7 (by decide)).trans h7
  have e8 : ρ (.tmp 8) = .func (.func 71) #[textV m v] #[] := (hold 8 (by decide)).trans h8
  have e10 : ρ (.tmp 10) = .string B := (hold 10 (by decide)).trans h10
  have e11 : ρ (.tmp 11) = .int .i64 iv := (hold 11 (by decide)).trans h11
  have e12 : ρ (.tmp 12) = .int .i64 fv := (hold 12 (by decide)).trans h12
  match kx, hkx with
  | 0, _ =>
    have hg := hgu 0 o ho _ rfl
    have ho' := hop 0 o ho _ rfl
    simp only [hg]
    exact .inl ⟨_, rfl, .inl (by unfold execOp; rw [ho']; go_simp)⟩
  | 1, _ =>
    have hg := hgu 1 o ho _ rfl
    have ho' := hop 1 o ho _ rfl
    simp only [hg]
    exact .inl ⟨_, rfl, .inl (by unfold execOp; rw [ho']; go_simp)⟩
  | 2, _ =>
    have hg := hgu 2 o ho _ rfl
    have ho' := hop 2 o ho _ rfl
    simp only [hg]
    have q89 : ρ (.tmp 89) = .func (.func 71) #[textV m v] #[] := hρ 0 (needs2_get hnd 2 0 (by decide)) 89 rfl
    have q90 : ρ (.tmp 90) = .int .i64 fv := hρ 1 (needs2_get hnd 2 1 (by decide)) 90 rfl
    refine .inr (.inr ⟨71, #[textV m v, .int .i64 (fv)], ?_, ?_⟩)
    · unfold execOp
      rw [ho']
      simp [go_sem, hfun, q89, q90, resolve, Act.eval]
    · refine (wat_walk (ht.below hb) hfo (hl.below hb) _).mono ?_
      rintro e W' ⟨rfl, hb'⟩
      exact ⟨_, rfl, hb.trans (hb'.mono hb.size), hb', rfl⟩
  | 3, _ =>
    have hg := hgu 3 o ho _ rfl
    have ho' := hop 3 o ho _ rfl
    simp only [hg]
    exact .inl ⟨_, rfl, .inl (by unfold execOp; rw [ho']; go_simp)⟩
  | 4, _ =>
    have hg := hgu 4 o ho _ rfl
    have ho' := hop 4 o ho _ rfl
    simp only [hg]
    exact .inl ⟨_, rfl, .inl (by unfold execOp; rw [ho']; go_simp)⟩
  | 5, _ =>
    have hg := hgu 5 o ho _ rfl
    have ho' := hop 5 o ho _ rfl
    simp only [hg]
    have q92 : ρ (.tmp 92) = .func (.func 71) #[textV m v] #[] := hρ 3 (needs2_get hnd 5 3 (by decide)) 92 rfl
    have q93 : ρ (.tmp 93) = .int .i64 iv := hρ 4 (needs2_get hnd 5 4 (by decide)) 93 rfl
    refine .inr (.inr ⟨71, #[textV m v, .int .i64 (iv)], ?_, ?_⟩)
    · unfold execOp
      rw [ho']
      simp [go_sem, hfun, q92, q93, resolve, Act.eval]
    · refine (wat_walk (ht.below hb) hfo (hl.below hb) _).mono ?_
      rintro e W' ⟨rfl, hb'⟩
      exact ⟨_, rfl, hb.trans (hb'.mono hb.size), hb', rfl⟩
  | 6, _ =>
    have hg := hgu 6 o ho _ rfl
    have ho' := hop 6 o ho _ rfl
    simp only [hg]
    exact .inl ⟨_, rfl, .inl (by unfold execOp; rw [ho']; go_simp)⟩
  | 7, _ =>
    have hg := hgu 7 o ho _ rfl
    have ho' := hop 7 o ho _ rfl
    simp only [hg]
    exact .inl ⟨_, rfl, .inl (by unfold execOp; rw [ho']; go_simp)⟩
  | 8, _ =>
    have hg := hgu 8 o ho _ rfl
    have ho' := hop 8 o ho _ rfl
    simp only [hg]
    have q0 := cell_later hb c0
    have q1 := cell_later hb c1
    exact .inl ⟨_, rfl, .inl (by unfold execOp; rw [ho']; unfold textV; go_simp)⟩
  | 9, _ =>
    have hg := hgu 9 o ho _ rfl
    have ho' := hop 9 o ho _ rfl
    simp only [hg]
    exact .inl ⟨_, rfl, .inl (by unfold execOp; rw [ho']; go_simp)⟩
  | 10, _ =>
    have hg := hgu 10 o ho _ rfl
    have ho' := hop 10 o ho _ rfl
    simp only [hg]
    have q97 : ρ (.tmp 97) = textV m v := hρ 8 (needs2_get hnd 10 8 (by decide)) 97 rfl
    have q98 : ρ (.tmp 98) = .int .i64 p := hρ 9 (needs2_get hnd 10 9 (by decide)) 98 rfl
    refine .inr (.inr ⟨74, #[textV m v, .int .i64 p, .int .i64 1], ?_, ?_⟩)
    · unfold execOp
      rw [ho']
      simp [go_sem, hfun, hcon, q97, q98, resolve, Act.eval]
    · refine (stepF_walk (ht.below hb) hfo (hl.below hb) p hp).mono ?_
      rintro e W' ⟨rfl, hb'⟩
      exact ⟨_, rfl, hb.trans (hb'.mono hb.size), hb', rfl⟩
  | 11, _ =>
    have hg := hgu 11 o ho _ rfl
    have ho' := hop 11 o ho _ rfl
    simp only [hg]
    have q96 : ρ (.tmp 96) = .func (.func 71) #[textV m v] #[] := hρ 7 (needs2_get hnd 11 7 (by decide)) 96 rfl
    have q99 : ρ (.tmp 99) = .int .i64 (stepF (wOf Φ zs) zs.length p) := hρ 10 (needs2_get hnd 11 10 (by decide)) 99 rfl
    refine .inr (.inr ⟨71, #[textV m v, .int .i64 ((stepF (wOf Φ zs) zs.length p))], ?_, ?_⟩)
    · unfold execOp
      rw [ho']
      simp [go_sem, hfun, q96, q99, resolve, Act.eval]
    · refine (wat_walk (ht.below hb) hfo (hl.below hb) _).mono ?_
      rintro e W' ⟨rfl, hb'⟩
      exact ⟨_, rfl, hb.trans (hb'.mono hb.size), hb', rfl⟩
  | 12, _ =>
    have hg := hgu 12 o ho _ rfl
    have ho' := hop 12 o ho _ rfl
    simp only [hg]
    have q91 : ρ (.tmp 91) = .string ⟨(wOf Φ zs fv).toArray⟩ := hρ 2 (needs2_get hnd 12 2 (by decide)) 91 rfl
    have q94 : ρ (.tmp 94) = .string ⟨(wOf Φ zs iv).toArray⟩ := hρ 5 (needs2_get hnd 12 5 (by decide)) 94 rfl
    have q95 : ρ (.tmp 95) = .string B := hρ 6 (needs2_get hnd 12 6 (by decide)) 95 rfl
    have q100 : ρ (.tmp 100) = .string ⟨(wOf Φ zs (stepF (wOf Φ zs) zs.length p)).toArray⟩ := hρ 11 (needs2_get hnd 12 11 (by decide)) 100 rfl
    exact .inl ⟨_, rfl, .inl (by unfold execOp; rw [ho']; go_simp)⟩
  | 13, _ =>
    have hg := hgu 13 o ho _ rfl
    have ho' := hop 13 o ho _ rfl
    simp only [hg]
    have q101 : ρ (.tmp 101) = .agg #[.string ⟨(wOf Φ zs fv).toArray⟩, .string ⟨(wOf Φ zs iv).toArray⟩, .string B, .string ⟨(wOf Φ zs (stepF (wOf Φ zs) zs.length p)).toArray⟩] := hρ 12 (needs2_get hnd 13 12 (by decide)) 101 rfl
    refine .inr (.inr ⟨75, #[.agg #[.string ⟨(wOf Φ zs fv).toArray⟩, .string ⟨(wOf Φ zs iv).toArray⟩, .string B, .string ⟨(wOf Φ zs (stepF (wOf Φ zs) zs.length p)).toArray⟩]], ?_, ?_⟩)
    · unfold execOp
      rw [ho']
      simp [go_sem, hfun, q101, resolve, Act.eval]
    · refine (joined_walk (w := W) ⟨(wOf Φ zs fv).toArray⟩ ⟨(wOf Φ zs iv).toArray⟩ B ⟨(wOf Φ zs (stepF (wOf Φ zs) zs.length p)).toArray⟩).mono ?_
      rintro e W' ⟨rfl, hb'⟩
      rw [show (⟨(wOf Φ zs fv).toArray⟩ : ByteArray).toList = wOf Φ zs fv from toBl _, show (⟨(wOf Φ zs iv).toArray⟩ : ByteArray).toList = wOf Φ zs iv from toBl _, show (⟨(wOf Φ zs (stepF (wOf Φ zs) zs.length p)).toArray⟩ : ByteArray).toList = wOf Φ zs (stepF (wOf Φ zs) zs.length p) from toBl _]
      exact ⟨_, rfl, hb.trans (hb'.mono hb.size), hb', rfl⟩
structure WSt (w0 W : World) (m b7 : Nat) (Φ : Files) (zs : List Int) (v : Value) : Prop where
  bel : Below w0.heap.size w0 W
  tab : TabAt W m Φ
  list : ListAt W v zs
  c0 : W.cell? ⟨b7, 0, none⟩ = some (.pointer (some ⟨m + 3, 0, none⟩))
  c1 : W.cell? ⟨b7, 1, none⟩ = some v
theorem WSt.next {w0 W W' : World} {m b7 : Nat} {Φ : Files} {zs : List Int} {v : Value} (h : WSt w0 W m b7 Φ zs v) (hb : Below W.heap.size W W') : WSt w0 W' m b7 Φ zs v := ⟨h.bel.trans (hb.mono h.bel.size), h.tab.below hb, h.list.below hb, cell_later hb h.c0, cell_later hb h.c1⟩
set_option maxRecDepth 100000 in
set_option maxHeartbeats 6400000 in
theorem wedge_walk {w : World} {m : Nat} {Φ : Files} {zs : List Int} {v : Value} (ht : TabAt w m Φ) (hfo : FilesOk Φ) (hcat : txOf Φ.cat 0 [67, 110] ≠ []) (hl : ListAt w v zs) (p : Int) (hp : (Lit.int .i64 p).wf = true) :
    Calls Tryz.prog 30 #[.pointer (some ⟨m + 3, 0, none⟩), v, .int .i64 p] w fun e w' => e = .returned (.bool (edgeW (wOf Φ zs) zs.length p)) ∧ Below w.heap.size w w' := by
  have hcw := category_walk ht hfo 0
  have hcs : (⟨(txOf Φ.cat 0 [67, 110]).toArray⟩ : ByteArray).toList.isEmpty = false := by
    rw [show (⟨(txOf Φ.cat 0 [67, 110]).toArray⟩ : ByteArray).toList = txOf Φ.cat 0 [67, 110] from toBl _]
    exact List.isEmpty_eq_false_iff.2 hcat
  generalize (⟨(txOf Φ.cat 0 [67, 110]).toArray⟩ : ByteArray) = cs at *
  have HCW := Lib.hid hcw
  have HL := Lib.hid hl
  have HT := Lib.hid ht
  obtain ⟨A0, c0, rfl, hn, hz⟩ := hl
  clear hcw hcat ht hz
  go_enter Tryz.func30, Tryz.ntmps30
  go_wp2_with fail
  refine HCW.out.mono ?_
  rintro e w1 ⟨rfl, hb1⟩
  have HB1 := Lib.hid hb1
  replace HT := Lib.hid (HT.out.below hb1)
  replace HL := Lib.hid (HL.out.below hb1)
  clear hb1 HCW
  by_cases hend : zs.length = 0 ∨ p < 0 ∨ (zs.length : Int) < p
  · have He := Lib.hid (show edgeW (wOf Φ zs) zs.length p = false by unfold edgeW; rw [if_pos hend])
    go_wp2_with fail
    all_goals
      first
        | (go_ret; refine ⟨?_, HB1.out⟩; rw [He.out]; rfl)
        | (exfalso; (try simp only [beq_eq_false_iff_ne, beq_iff_eq, ne_eq, decide_eq_false_iff_not, decide_eq_true_eq] at *); omega)
  by_cases hedge : p = 0 ∨ p = zs.length
  · have He := Lib.hid (show edgeW (wOf Φ zs) zs.length p = true by unfold edgeW; rw [if_neg hend, if_pos hedge])
    have g1 : ((zs.length : Int) == 0) = false := by rw [beq_eq_false_iff_ne]; omega
    have g2 : decide (p < 0) = false := by simp; omega
    have g3 : decide (p > (zs.length : Int)) = false := by simp; omega
    clear hend
    go_wp2_with fail
    all_goals
      first
        | (go_ret; refine ⟨?_, HB1.out⟩; rw [He.out]; rfl)
        | (exfalso; (try simp only [beq_eq_false_iff_ne, beq_iff_eq, ne_eq, decide_eq_false_iff_not, decide_eq_true_eq] at *); omega)
  have g1 : ((zs.length : Int) == 0) = false := by rw [beq_eq_false_iff_ne]; omega
  have g2 : decide (p < 0) = false := by simp; omega
  have g3 : decide (p > (zs.length : Int)) = false := by simp; omega
  have g4 : (p == 0) = false := by rw [beq_eq_false_iff_ne]; omega
  have g5 : (p == (zs.length : Int)) = false := by rw [beq_eq_false_iff_ne]; omega
  have hp1 : 1 ≤ p ∧ p < zs.length := by omega
  have a1 : IntKind.i64.wrap (p - 1) = p - 1 := by rw [IntKind.wrap_i64]; omega
  have a2 : wrap64 (p - 1) = p - 1 := by unfold wrap64; omega
  have He := Lib.hid (show edgeW (wOf Φ zs) zs.length p = midW (wOf Φ zs) zs.length p (wOf Φ zs (p - 1)) (wOf Φ zs p) by unfold edgeW; rw [if_neg hend, if_neg hedge])
  clear hend hedge
  go_upto_region 5 with fail
  go_cut [7] (fun c wx => c = .pointer (some ⟨w1.heap.size, 0, none⟩) ∧ WSt w wx m w1.heap.size Φ zs (.slice A0 zs.length c0))
  case first =>
    go_wp2_with fail
    go_meet
    case rel =>
      have hbx := alloc_below w1 (Obj.cells #[Value.pointer (some ⟨m + 3, 0, none⟩), Value.slice A0 zs.length c0] 89)
      have hr := (cells_of_row (row_new w1 (Obj.cells #[Value.pointer (some ⟨m + 3, 0, none⟩), Value.slice A0 zs.length c0] 89))).1
      exact ⟨rfl, HB1.out.trans (hbx.mono HB1.out.size), HT.out.below hbx, HL.out.below hbx, hr 0, hr 1⟩
  case rest =>
  obtain ⟨rfl, hs_⟩ := hcut
  have HS := Lib.hid hs_
  generalize w1.heap.size = b7 at *
  have k0 := HS.out.c0
  have k1 := HS.out.c1
  clear hs_ g1 g2 g3 g4 g5 HT HL HB1
  go_wp2_with fail
  refine (wat_walk HS.out.tab hfo HS.out.list (p - 1)).mono ?_
  rintro e w_ ⟨rfl, hb_⟩
  replace HS := Lib.hid (HS.out.next hb_)
  clear hb_ k0 k1
  have k0 := HS.out.c0
  have k1 := HS.out.c1
  obtain ⟨A, hA⟩ : ∃ S : ByteArray, S = ⟨(wOf Φ zs (p - 1)).toArray⟩ := ⟨_, rfl⟩
  have HA := Lib.hid (show A.toList = wOf Φ zs (p - 1) by rw [hA]; exact toBl _)
  rw [← hA]
  clear hA
  go_wp2_with fail
  refine (wat_walk HS.out.tab hfo HS.out.list (p)).mono ?_
  rintro e w_ ⟨rfl, hb_⟩
  replace HS := Lib.hid (HS.out.next hb_)
  clear hb_ k0 k1
  have k0 := HS.out.c0
  have k1 := HS.out.c1
  obtain ⟨B, hB⟩ : ∃ S : ByteArray, S = ⟨(wOf Φ zs (p)).toArray⟩ := ⟨_, rfl⟩
  have HB := Lib.hid (show B.toList = wOf Φ zs (p) by rw [hB]; exact toBl _)
  rw [← hB]
  clear hB
  go_upto_region 8 with fail
  go_cut [52] (fun c wx => c = .bool (A.toList == [67, 82] && B.toList == [76, 70]) ∧ WSt w wx m b7 Φ zs (.slice A0 zs.length c0))
  case first =>
    cases q1 : (A.toList == [67, 82])
    · skip
      go_wp2_with fail
      go_meet
      case rel => exact ⟨by rw [q1]; rfl, HS.out⟩
    · cases q2 : (B.toList == [76, 70])
      · skip
        go_wp2_with fail
        go_meet
        case rel => exact ⟨by rw [q1, q2]; rfl, HS.out⟩
      · skip
        go_wp2_with fail
        go_meet
        case rel => exact ⟨by rw [q1, q2]; rfl, HS.out⟩
  case rest =>
  obtain ⟨rfl, hs_⟩ := hcut
  replace HS := Lib.hid hs_
  clear hs_ k0 k1
  have k0 := HS.out.c0
  have k1 := HS.out.c1
  obtain ⟨x, K1⟩ : ∃ x, Hid (x = (A.toList == [67, 82] && B.toList == [76, 70])) := ⟨_, rfl⟩
  rw [← K1.out]
  cases x; rotate_left
  · skip
    go_wp2_with fail
    go_ret
    exact ⟨by rw [He.out, ← HA.out, ← HB.out]; unfold midW; rw [← K1.out]; rfl, HS.out.bel⟩
  go_upto_region 10 with fail
  go_cut [59] (fun c wx => c = .bool (lineB A.toList || lineB B.toList) ∧ WSt w wx m b7 Φ zs (.slice A0 zs.length c0))
  case first =>
    go_wp2_with fail
    refine (line_walk A _).mono ?_
    rintro e w_ ⟨rfl, rfl⟩
    cases q1 : lineB A.toList
    · go_wp2_with fail
      refine (line_walk B _).mono ?_
      rintro e w_ ⟨rfl, rfl⟩
      go_wp2_with fail
      go_meet
      case rel => exact ⟨by rw [q1, Bool.false_or], HS.out⟩
    · skip
      go_wp2_with fail
      go_meet
      case rel => exact ⟨by rw [q1]; rfl, HS.out⟩
  case rest =>
  obtain ⟨rfl, hs_⟩ := hcut
  replace HS := Lib.hid hs_
  clear hs_ k0 k1
  have k0 := HS.out.c0
  have k1 := HS.out.c1
  obtain ⟨x, K2⟩ : ∃ x, Hid (x = (lineB A.toList || lineB B.toList)) := ⟨_, rfl⟩
  rw [← K2.out]
  cases x; rotate_left
  · skip
    go_wp2_with fail
    go_ret
    exact ⟨by rw [He.out, ← HA.out, ← HB.out]; unfold midW; rw [← K1.out, ← K2.out]; rfl, HS.out.bel⟩
  go_upto_region 12 with fail
  go_cut [66] (fun c wx => c = .bool (A.toList == [90, 87, 74] && B.toList == [80, 105, 99, 116, 111, 103, 114, 97, 112, 104, 105, 99]) ∧ WSt w wx m b7 Φ zs (.slice A0 zs.length c0))
  case first =>
    cases q1 : (A.toList == [90, 87, 74])
    · skip
      go_wp2_with fail
      go_meet
      case rel => exact ⟨by rw [q1]; rfl, HS.out⟩
    · cases q2 : (B.toList == [80, 105, 99, 116, 111, 103, 114, 97, 112, 104, 105, 99])
      · skip
        go_wp2_with fail
        go_meet
        case rel => exact ⟨by rw [q1, q2]; rfl, HS.out⟩
      · skip
        go_wp2_with fail
        go_meet
        case rel => exact ⟨by rw [q1, q2]; rfl, HS.out⟩
  case rest =>
  obtain ⟨rfl, hs_⟩ := hcut
  replace HS := Lib.hid hs_
  clear hs_ k0 k1
  have k0 := HS.out.c0
  have k1 := HS.out.c1
  obtain ⟨x, K3⟩ : ∃ x, Hid (x = (A.toList == [90, 87, 74] && B.toList == [80, 105, 99, 116, 111, 103, 114, 97, 112, 104, 105, 99])) := ⟨_, rfl⟩
  rw [← K3.out]
  cases x; rotate_left
  · skip
    go_wp2_with fail
    go_ret
    exact ⟨by rw [He.out, ← HA.out, ← HB.out]; unfold midW; rw [← K1.out, ← K2.out, ← K3.out]; rfl, HS.out.bel⟩
  go_upto_region 13 with fail
  go_cut [66] (fun c wx => c = .bool (A.toList == [83, 112, 97, 99, 101] && B.toList == [83, 112, 97, 99, 101]) ∧ WSt w wx m b7 Φ zs (.slice A0 zs.length c0))
  case first =>
    cases q1 : (A.toList == [83, 112, 97, 99, 101])
    · skip
      go_wp2_with fail
      go_meet
      case rel => exact ⟨by rw [q1]; rfl, HS.out⟩
    · cases q2 : (B.toList == [83, 112, 97, 99, 101])
      · skip
        go_wp2_with fail
        go_meet
        case rel => exact ⟨by rw [q1, q2]; rfl, HS.out⟩
      · skip
        go_wp2_with fail
        go_meet
        case rel => exact ⟨by rw [q1, q2]; rfl, HS.out⟩
  case rest =>
  obtain ⟨rfl, hs_⟩ := hcut
  replace HS := Lib.hid hs_
  clear hs_ k0 k1
  have k0 := HS.out.c0
  have k1 := HS.out.c1
  obtain ⟨x, K4⟩ : ∃ x, Hid (x = (A.toList == [83, 112, 97, 99, 101] && B.toList == [83, 112, 97, 99, 101])) := ⟨_, rfl⟩
  rw [← K4.out]
  cases x; rotate_left
  · skip
    go_wp2_with fail
    go_ret
    exact ⟨by rw [He.out, ← HA.out, ← HB.out]; unfold midW; rw [← K1.out, ← K2.out, ← K3.out, ← K4.out]; rfl, HS.out.bel⟩
  go_upto_region 14 with fail
  go_cut [66] (fun c wx => c = .bool (passedB B.toList) ∧ WSt w wx m b7 Φ zs (.slice A0 zs.length c0))
  case first =>
    go_wp2_with fail
    refine (passed_walk B _).mono ?_
    rintro e w_ ⟨rfl, rfl⟩
    go_wp2_with fail
    go_meet
    case rel => exact ⟨rfl, HS.out⟩
  case rest =>
  obtain ⟨rfl, hs_⟩ := hcut
  replace HS := Lib.hid hs_
  clear hs_ k0 k1
  have k0 := HS.out.c0
  have k1 := HS.out.c1
  obtain ⟨x, K5⟩ : ∃ x, Hid (x = (passedB B.toList)) := ⟨_, rfl⟩
  rw [← K5.out]
  cases x; rotate_left
  · skip
    go_wp2_with fail
    go_ret
    exact ⟨by rw [He.out, ← HA.out, ← HB.out]; unfold midW; rw [← K1.out, ← K2.out, ← K3.out, ← K4.out, ← K5.out]; rfl, HS.out.bel⟩
  go_wp2_with fail
  refine (stepB_walk HS.out.tab hfo HS.out.list p (by omega)).mono ?_
  rintro e w_ ⟨rfl, hb_⟩
  replace HS := Lib.hid (HS.out.next hb_)
  clear hb_ k0 k1
  have k0 := HS.out.c0
  have k1 := HS.out.c1
  obtain ⟨iv, HIv⟩ : ∃ iv, Hid (iv = stepB (wOf Φ zs) zs.length p) := ⟨_, rfl⟩
  rw [← HIv.out]
  have hiv : -1 ≤ iv ∧ iv < p := by rw [HIv.out]; exact ⟨stepB_ge _ _ _, stepB_lt _ _ _ (by omega)⟩
  go_upto_if 85 with fail
  go_cut [12] (fun c wx => c = .int .i64 (farOf (wOf Φ zs) zs.length iv) ∧ WSt w wx m b7 Φ zs (.slice A0 zs.length c0))
  case first =>
    by_cases h0 : 0 ≤ iv
    · have d0 := decide_eq_true (show iv ≥ 0 from h0)
      have n0 : ¬ iv < 0 := by omega
      have Hf := Lib.hid (show farOf (wOf Φ zs) zs.length iv = stepB (wOf Φ zs) zs.length iv by unfold farOf; rw [if_pos h0])
      clear h0
      go_wp2_with fail
      refine (stepB_walk HS.out.tab hfo HS.out.list iv (by omega)).mono ?_
      rintro e w_ ⟨rfl, hb_⟩
      replace HS := Lib.hid (HS.out.next hb_)
      clear hb_ k0 k1
      have k0 := HS.out.c0
      have k1 := HS.out.c1
      go_wp2_with fail
      go_meet
      case rel => exact ⟨by rw [Hf.out], HS.out⟩
    · have d0 := decide_eq_false (show ¬ iv ≥ 0 from h0)
      have n0 : iv < 0 := by omega
      have Hf := Lib.hid (show farOf (wOf Φ zs) zs.length iv = -1 by unfold farOf; rw [if_neg h0])
      clear h0
      go_wp2_with fail
      go_meet
      case rel => exact ⟨by rw [Hf.out], HS.out⟩
  case rest =>
  obtain ⟨rfl, hs_⟩ := hcut
  replace HS := Lib.hid hs_
  clear hs_ k0 k1
  have k0 := HS.out.c0
  have k1 := HS.out.c1
  obtain ⟨fv, HFv⟩ : ∃ fv, Hid (fv = farOf (wOf Φ zs) zs.length iv) := ⟨_, rfl⟩
  rw [← HFv.out]
  go_upto_region 20 with fail
  go_cut [102] (fun c wx => c = .bool (joinedB (wOf Φ zs fv) (wOf Φ zs iv) B.toList (wOf Φ zs (stepF (wOf Φ zs) zs.length p))) ∧ WSt w wx m b7 Φ zs (.slice A0 zs.length c0))
  case first =>
    refine regionE20 _ _ _ _ _ m b7 Φ zs (.slice A0 zs.length c0) B p iv fv rfl rfl (by kernel_rfl) (by kernel_rfl) (by first | simp | exact Nat.le_refl _ | decide) rfl rfl rfl rfl rfl rfl HS.out.tab hfo HS.out.list k0 k1 (by omega) ?_
    intro V W_ hb_ hV
    have hVn : V 13 = .bool (joinedB (wOf Φ zs fv) (wOf Φ zs iv) B.toList (wOf Φ zs (stepF (wOf Φ zs) zs.length p))) := hV 13 (by decide)
    simp [frS, stepS, Exit.then]
    rw [hVn]
    clear hV hVn
    go_wp2_with fail
    go_meet
    case rel => exact ⟨rfl, HS.out.next hb_⟩
  case rest =>
  obtain ⟨rfl, hs_⟩ := hcut
  replace HS := Lib.hid hs_
  clear hs_ k0 k1
  have k0 := HS.out.c0
  have k1 := HS.out.c1
  obtain ⟨x, K6⟩ : ∃ x, Hid (x = (joinedB (wOf Φ zs fv) (wOf Φ zs iv) B.toList (wOf Φ zs (stepF (wOf Φ zs) zs.length p)))) := ⟨_, rfl⟩
  rw [← K6.out]
  cases x; rotate_left
  · skip
    go_wp2_with fail
    go_ret
    exact ⟨by rw [He.out, ← HA.out, ← HB.out]; unfold midW; rw [← K1.out, ← K2.out, ← K3.out, ← K4.out, ← K5.out, ← HIv.out, ← HFv.out, ← K6.out]; rfl, HS.out.bel⟩
  cases q9 : (B.toList == [70, 108, 97, 103])
  · go_wp2_with fail
    go_ret
    exact ⟨by rw [He.out, ← HA.out, ← HB.out]; unfold midW; rw [← K1.out, ← K2.out, ← K3.out, ← K4.out, ← K5.out, ← HIv.out, ← HFv.out, ← K6.out, q9]; rfl, HS.out.bel⟩
  have Hlast := Lib.hid (show edgeW (wOf Φ zs) zs.length p = (flagsW (wOf Φ zs) zs.length iv % 2 == 0) by rw [He.out, ← HA.out, ← HB.out]; unfold midW; rw [← K1.out, ← K2.out, ← K3.out, ← K4.out, ← K5.out, ← HIv.out, ← HFv.out, ← K6.out, q9]; rfl)
  clear He K1 K2 K3 K4 K5 K6 HA HIv HFv
  go_wp2_with fail
  go_loopw [11, 13] (fun i c wr => ∃ (k : Nat) (j : Int), c = .int .i64 k ∧ i = .int .i64 j ∧ (-1 ≤ j ∧ j < zs.length ∧ (k : Int) + j + 1 ≤ zs.length) ∧ Hid (flagsW (wOf Φ zs) zs.length iv = k + flagsW (wOf Φ zs) zs.length j) ∧ Hid (WSt w wr m b7 Φ zs (.slice A0 zs.length c0))) (fun i _ _ => (intOf i + 1).toNat)
  case atStart => exact ⟨0, iv, rfl, rfl, by omega, by show _ = _; omega, HS⟩
  case round =>
    obtain ⟨k, j, rfl, rfl, hj, HI, HSr⟩ := hrel
    clear HS k0 k1
    have HS := HSr
    clear HSr
    have k0 := HS.out.c0
    have k1 := HS.out.c1
    have fin : flagsW (wOf Φ zs) zs.length iv = k → ((k : Int) % 2 == 0) = edgeW (wOf Φ zs) zs.length p := fun h => by
      rw [Hlast.out, h]
      by_cases h2 : k % 2 = 0
      · rw [beq_iff_eq.2 h2, beq_iff_eq]; omega
      · rw [beq_eq_false_iff_ne.2 h2, beq_eq_false_iff_ne]; omega
    have Hfin := Lib.hid fin
    clear fin
    by_cases h0 : 0 ≤ j
    · have d0 := decide_eq_true (show j ≥ 0 from h0)
      go_wp2_with fail
      refine (wat_walk HS.out.tab hfo HS.out.list j).mono ?_
      rintro e w_ ⟨rfl, hb_⟩
      replace HS := Lib.hid (HS.out.next hb_)
      clear hb_ k0 k1
      have k0 := HS.out.c0
      have k1 := HS.out.c1
      obtain ⟨C, hC⟩ : ∃ S : ByteArray, S = ⟨(wOf Φ zs j).toArray⟩ := ⟨_, rfl⟩
      have HC := Lib.hid (show C.toList = wOf Φ zs j by rw [hC]; exact toBl _)
      rw [← hC]
      clear hC
      cases q1 : (C.toList == [70, 108, 97, 103])
      · have h9 : flagsW (wOf Φ zs) zs.length iv = k := by
          rw [HI.out, flagsW_end (fun _ => by rw [← HC.out]; exact q1)]
          rfl
        have Hv := Lib.hid (Hfin.out h9)
        clear h9 Hfin HI
        go_wp2_with fail
        go_ret
        exact ⟨by rw [← Hv.out]; first | done | rfl, HS.out.bel⟩
      · have h9 : flagsW (wOf Φ zs) zs.length iv = ((k + 1 : Nat)) + flagsW (wOf Φ zs) zs.length (stepB (wOf Φ zs) zs.length j) := by
          rw [HI.out, flagsW_more h0 (by rw [← HC.out]; exact q1)]
          omega
        have H9 := Lib.hid h9
        have hsl := stepB_lt (wOf Φ zs) zs.length j h0
        have hsg := stepB_ge (wOf Φ zs) zs.length j
        have b1 : IntKind.i64.wrap ((k : Int) + 1) = (k : Int) + 1 := by rw [IntKind.wrap_i64]; omega
        clear h9 HI Hfin
        go_wp2_with fail
        refine (stepB_walk HS.out.tab hfo HS.out.list j (by omega)).mono ?_
        rintro e w_ ⟨rfl, hb_⟩
        replace HS := Lib.hid (HS.out.next hb_)
        clear hb_ k0 k1
        have k0 := HS.out.c0
        have k1 := HS.out.c1
        generalize stepB (wOf Φ zs) zs.length j = j2 at *
        go_wp2_with fail
        go_roundw
        case rel => exact ⟨k + 1, j2, by go_num, rfl, by omega, H9, HS⟩
        case measure => simp only [intOf]; omega
    · have d0 := decide_eq_false (show ¬ j ≥ 0 from h0)
      have h9 : flagsW (wOf Φ zs) zs.length iv = k := by
        rw [HI.out, flagsW_end (fun h => absurd h h0)]
        rfl
      have Hv := Lib.hid (Hfin.out h9)
      clear h9 Hfin HI
      go_wp2_with fail
      go_ret
      exact ⟨by rw [← Hv.out]; first | done | rfl, HS.out.bel⟩
end Go.Proofs.YtkgomgfhfoomhaaGreatDoor
