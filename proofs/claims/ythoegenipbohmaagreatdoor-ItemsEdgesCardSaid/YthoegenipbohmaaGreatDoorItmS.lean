/- items.Text.Span's two comparisons, slices.MinFunc and slices.MaxFunc over them. Printed by wip/tools/mkspan.py. -/
import Derived.Test.YthoegenipbohmaaGreatDoorItmD
import Derived.Test.YthoegenipbohmaaGreatDoorDagM
namespace Go.Proofs.YthoegenipbohmaaGreatDoor
open Go.RowKit Utf Itm
set_option linter.unusedVariables false
set_option linter.unusedSimpArgs false
theorem Blk.other {w : World} {b : Nat} {t : TypeId} {cs : Array Value} {a : Addr} {u : Value} (h : Blk w b t cs) (hne : b ≠ a.block) : Blk (w.setCell a u) b t cs := h.grown (set_grown w a u) (fun e => hne (Option.some.inj e))
abbrev itv (x : It) : Value := .agg #[.int .i64 x.r, .int .i64 x.s, .int .i64 x.e]
theorem min_fn (w : World) (a b : It) (h : IntKind.i64.wrap (a.s - b.s) = a.s - b.s) : Calls Tryz.prog 70 #[itv a, itv b] w fun e w' => e = .returned (.int .i64 (a.s - b.s)) ∧ Below w.heap.size w w' := by
  have hba := alloc_below w (Obj.cells #[.int .i64 a.r, .int .i64 a.s, .int .i64 a.e] 25)
  have HB := Lib.hid (hba.trans ((alloc_below (w.alloc (Obj.cells #[.int .i64 a.r, .int .i64 a.s, .int .i64 a.e] 25)) (Obj.cells #[.int .i64 b.r, .int .i64 b.s, .int .i64 b.e] 25)).mono hba.size))
  clear hba
  go_enter Tryz.func70, Tryz.ntmps70
  go_wp2_with fail
  go_ret
  exact ⟨rfl, HB.out⟩
abbrev dsMI : List (Option Tmp) := [some 20, some 21, some 22, some 23, some 24, some 25, some 26, some 27]
abbrev needsMI : List (Nat × Nat) := [(3, 1), (3, 2), (4, 3), (6, 0), (6, 4), (6, 5), (7, 6)]
abbrev opsMI : List Op := [.move (.tmp 1), .move (.tmp 0), .move (.tmp 6), .indexAddr 22 (.tmp 21) (.tmp 22), .load 25 (.tmp 23), .load 25 (.tmp 5), .call { callee := .value (.tmp 20), args := #[.tmp 24, .tmp 25], argTypes := #[25, 25] }, .binOp .lss 3 (.tmp 26) (.const (.int .i64 0)) 3]
abbrev gsMI : List (Option (Nat × Bool)) := [none, none, none, none, none, none, none, none]
def relMI (ad : Addr) (n c k b5 : Nat) (x m : It) : Nat → Value → World → Prop := fun kx vx W => match kx with
  | 0 => vx = .func (.func 70) #[] #[]
  | 1 => vx = .slice (some ad) n c
  | 2 => vx = .int .i64 (k : Nat)
  | 3 => vx = .pointer (some (ad.add (k * 3)))
  | 4 => vx = itv x
  | 5 => vx = itv m
  | 6 => vx = .int .i64 (x.s - m.s)
  | 7 => vx = .bool (decide ((x.s - m.s) < 0))
  | _ => True
set_option maxHeartbeats 1600000 in
theorem regionMI (a : Act) (ops : Array Oper) (rid : Nat) (Q : Exit → Act → World → Prop) (w : World) (ad : Addr) (n c k b5 : Nat) (x m : It) (hops : ops.toList.map (·.op) = opsMI) (hgs : ops.toList.map (·.guard) = gsMI) (hok : dagOkG ops dsMI = true) (hnd : needsOk2 ops needsMI = true) (hsz : 28 ≤ a.tmps.size)
    (h0 : a.tmps.getD 0 undef = .slice (some ad) n c)
    (h1 : a.tmps.getD 1 undef = .func (.func 70) #[] #[])
    (h5 : a.tmps.getD 5 undef = .pointer (some ⟨b5, 0, none⟩))
    (h6 : a.tmps.getD 6 undef = .int .i64 (k : Nat))
    (k0 : w.cell? (ad.add (k * 3)) = some (.int .i64 x.r)) (k1 : w.cell? ⟨(ad.add (k * 3)).block, (ad.add (k * 3)).off + 1, none⟩ = some (.int .i64 x.s)) (k2 : w.cell? ⟨(ad.add (k * 3)).block, (ad.add (k * 3)).off + 2, none⟩ = some (.int .i64 x.e)) (hm : Blk w b5 25 #[.int .i64 m.r, .int .i64 m.s, .int .i64 m.e]) (hk : k < n) (hn : n ≤ 9223372036854775807) (hw : IntKind.i64.wrap (x.s - m.s) = x.s - m.s)
    (hend : ∀ vs W, (fun W => Below w.heap.size w W) W → (∀ j, j < 8 → relMI ad n c k b5 x m j (vs j) W) → Q .normal { a with tmps := frS (fun j => decide (j < 8)) vs 0 dsMI a.tmps } W) :
    (Code.region rid ops true).wp Tryz.prog Q a w := by
  have hlen : ops.size = 8 := by have := congrArg List.length hops; simpa using this
  have hop : ∀ (i : Nat) (o : Oper), ops[i]? = some o → ∀ x, opsMI[i]? = some x → o.op = x := by
    intro i o ho x hx
    rw [← hops, List.getElem?_map, Array.getElem?_toList, ho] at hx
    simpa using hx
  have hgu : ∀ (i : Nat) (o : Oper), ops[i]? = some o → ∀ x, gsMI[i]? = some x → o.guard = x := by
    intro i o ho x hx
    rw [← hgs, List.getElem?_map, Array.getElem?_toList, ho] at hx
    simpa using hx
  rw [← hlen] at hend
  refine wp_region_rel (by kernel_rfl) dsMI hok (fun t ht => Nat.lt_of_lt_of_le (of_decide_eq_true (List.all_eq_true.1 (show dsMI.all (fun d => match d with | some t => decide (t < 28) | none => true) = true from rfl) _ ht)) hsz) (relMI ad n c k b5 x m) (fun W => Below w.heap.size w W) ?_ ?_ ?_ hend
  · intro i v W W' h hb
    unfold relMI at h ⊢
    split at h
    · exact h
    · exact h
    · exact h
    · exact h
    · exact h
    · exact h
    · exact h
    · exact h
    · exact h
  · exact ⟨rfl, rfl, rfl, Nat.le_refl _, fun _ _ => rfl⟩
  intro kx o ho ρ W hb hρ hold hold2 hcon hfun _
  have hkx : kx < 8 := by rw [← hlen]; exact (Array.getElem?_eq_some_iff.1 ho).1
  have e0 : ρ (.tmp 0) = .slice (some ad) n c := (hold 0 (by decide)).trans h0
  have e1 : ρ (.tmp 1) = .func (.func 70) #[] #[] := (hold 1 (by decide)).trans h1
  have e5 : ρ (.tmp 5) = .pointer (some ⟨b5, 0, none⟩) := (hold 5 (by decide)).trans h5
  have e6 : ρ (.tmp 6) = .int .i64 (k : Nat) := (hold 6 (by decide)).trans h6
  match kx, hkx with
  | 0, _ =>
    have hg := hgu 0 o ho _ rfl
    have ho' := hop 0 o ho _ rfl
    simp only [hg]
    exact .inl ⟨_, rfl, .inl (by unfold execOp; rw [ho']; go_simp)⟩
  | 1, _ =>
    have hg := hgu 1 o ho _ rfl
    have ho' := hop 1 o ho _ rfl
    simp only [hg]
    exact .inl ⟨_, rfl, .inl (by unfold execOp; rw [ho']; go_simp)⟩
  | 2, _ =>
    have hg := hgu 2 o ho _ rfl
    have ho' := hop 2 o ho _ rfl
    simp only [hg]
    exact .inl ⟨_, rfl, .inl (by unfold execOp; rw [ho']; go_simp)⟩
  | 3, _ =>
    have hg := hgu 3 o ho _ rfl
    have ho' := hop 3 o ho _ rfl
    simp only [hg]
    have q21 : ρ (.tmp 21) = .slice (some ad) n c := hρ 1 (needs2_get hnd 3 1 (by decide)) 21 rfl
    have q22 : ρ (.tmp 22) = .int .i64 (k : Nat) := hρ 2 (needs2_get hnd 3 2 (by decide)) 22 rfl
    exact .inl ⟨_, rfl, .inl (by unfold execOp; rw [ho']; go_simp)⟩
  | 4, _ =>
    have hg := hgu 4 o ho _ rfl
    have ho' := hop 4 o ho _ rfl
    simp only [hg]
    have q23 : ρ (.tmp 23) = .pointer (some (ad.add (k * 3))) := hρ 3 (needs2_get hnd 4 3 (by decide)) 23 rfl
    have c0 := cell_later hb k0
    have c1 := cell_later hb k1
    have c2 := cell_later hb k2
    exact .inl ⟨_, rfl, .inl (by unfold execOp; rw [ho']; go_simp)⟩
  | 5, _ =>
    have hg := hgu 5 o ho _ rfl
    have ho' := hop 5 o ho _ rfl
    simp only [hg]
    have m0 := (hm.below hb).cell 0
    have m1 := (hm.below hb).cell 1
    have m2 := (hm.below hb).cell 2
    exact .inl ⟨_, rfl, .inl (by unfold execOp; rw [ho']; go_simp)⟩
  | 6, _ =>
    have hg := hgu 6 o ho _ rfl
    have ho' := hop 6 o ho _ rfl
    simp only [hg]
    have q20 : ρ (.tmp 20) = .func (.func 70) #[] #[] := hρ 0 (needs2_get hnd 6 0 (by decide)) 20 rfl
    have q24 : ρ (.tmp 24) = itv x := hρ 4 (needs2_get hnd 6 4 (by decide)) 24 rfl
    have q25 : ρ (.tmp 25) = itv m := hρ 5 (needs2_get hnd 6 5 (by decide)) 25 rfl
    refine .inr (.inr ⟨70, #[itv x, itv m], ?_, ?_⟩)
    · unfold execOp
      rw [ho']
      simp [go_sem, hfun, q20, q24, q25, resolve, Act.eval]
    · refine (min_fn W x m hw).mono ?_
      rintro e W' ⟨rfl, hb'⟩
      exact ⟨_, rfl, hb.trans (hb'.mono hb.size), hb', rfl⟩
  | 7, _ =>
    have hg := hgu 7 o ho _ rfl
    have ho' := hop 7 o ho _ rfl
    simp only [hg]
    have q26 : ρ (.tmp 26) = .int .i64 (x.s - m.s) := hρ 6 (needs2_get hnd 7 6 (by decide)) 26 rfl
    exact .inl ⟨_, rfl, .inl (by unfold execOp; rw [ho']; go_simp)⟩
set_option maxRecDepth 100000 in
theorem min_walk {w : World} {v : Value} {xs : List It} (h : ItsAt w v xs) (h0 : 0 < xs.length) (hl : xs.length ≤ 100000) (n : Int) (hs : ∀ x ∈ xs, 0 ≤ x.s ∧ x.s ≤ 1000000) (hn : ∀ x ∈ xs, x.s ≤ n) : Calls Tryz.prog 72 #[v, .func (.func 70) #[] #[]] w fun e w' => (∃ m : It, e = .returned (itv m) ∧ m.s = minS n xs) ∧ Below w.heap.size w w' := by
  obtain ⟨A, c, rfl, hn9, hz⟩ := h
  obtain ⟨ad, rfl, had⟩ := hz h0
  have HC := Lib.hid had
  have HS := Lib.hid hs
  have HN := Lib.hid hn
  obtain ⟨x0, hx0⟩ : ∃ x, x = xs[0] := ⟨_, rfl⟩
  obtain ⟨d0, d1, d2⟩ := had 0 h0
  rw [← hx0, Nat.zero_mul, add_noneU] at d0 d1 d2
  have hba := alloc_below w (Obj.cells #[Value.int IntKind.i64 0, Value.int IntKind.i64 0, Value.int IntKind.i64 0] 25)
  obtain ⟨W0, hW0⟩ : ∃ W, W = w.alloc (Obj.cells #[Value.int IntKind.i64 0, Value.int IntKind.i64 0, Value.int IntKind.i64 0] 25) := ⟨_, rfl⟩
  have hZ0 : Blk W0 w.heap.size 25 #[Value.int IntKind.i64 0, Value.int IntKind.i64 0, Value.int IntKind.i64 0] := hW0 ▸ row_new _ _
  have hs0 : W0.heap.size = w.heap.size + 1 := by rw [hW0, size_new]
  rw [← hW0] at hba
  have q0 : W0.cell? ad = some (.int .i64 x0.r) := cell_later hba d0
  have q1 : W0.cell? ⟨ad.block, ad.off + 1, none⟩ = some (.int .i64 x0.s) := cell_later hba d1
  have q2 : W0.cell? ⟨ad.block, ad.off + 2, none⟩ = some (.int .i64 x0.e) := cell_later hba d2
  have hbb := alloc_below W0 (Obj.cells #[.int .i64 x0.r, .int .i64 x0.s, .int .i64 x0.e] 25)
  have hX1 : Blk (W0.alloc (Obj.cells #[.int .i64 x0.r, .int .i64 x0.s, .int .i64 x0.e] 25)) W0.heap.size 25 #[.int .i64 x0.r, .int .i64 x0.s, .int .i64 x0.e] := row_new _ _
  have HZ := Lib.hid (hZ0.below hbb)
  have HX := Lib.hid hX1
  have HB := Lib.hid (hba.trans (hbb.mono hba.size))
  have HS0 := Lib.hid hs0
  have HX0 := Lib.hid hx0
  have dl : decide ((xs.length : Int) < 1) = false := by rw [decide_eq_false_iff_not]; omega
  clear had hs hn hz d0 d1 d2 hba hbb hX1 hZ0 hs0 hx0
  go_enter Tryz.func72, Tryz.ntmps72
  go_upto_region 1 with fail
  rw [← hW0]
  clear hW0
  go_upto_region 4 with fail
  generalize W0.alloc _ = W1 at *
  obtain ⟨b5, hb5⟩ : ∃ b, b = W0.heap.size := ⟨_, rfl⟩
  rw [← hb5] at HX HS0 ⊢
  clear hb5 q0 q1 q2
  go_wp2_with fail
  go_loopw [6] (fun i wr => ∃ (k : Nat) (m : It), 1 ≤ k ∧ k ≤ xs.length ∧ i = .int .i64 k ∧ Hid (Blk wr b5 25 #[.int .i64 m.r, .int .i64 m.s, .int .i64 m.e]) ∧ Hid (Blk wr w.heap.size 25 #[Value.int IntKind.i64 0, Value.int IntKind.i64 0, Value.int IntKind.i64 0]) ∧ Hid (m.s = minS n (xs.take k) ∧ m ∈ xs) ∧ Hid (Below w.heap.size w wr)) (fun i _ => xs.length - (intOf i).toNat)
  case atStart => exact ⟨1, x0, Nat.le_refl _, h0, rfl, HX, HZ, (by
    have hx0 := HX0.out
    have hm : x0 ∈ xs := by rw [hx0]; exact List.getElem_mem _
    refine ⟨?_, hm⟩
    rw [List.take_succ_eq_append_getElem h0, List.take_zero, List.nil_append, ← hx0]
    have := HN.out
    have := HS.out x0 hm
    have h2 := HN.out x0 hm
    show x0.s = min x0.s n
    omega), HB⟩
  case round =>
    clear HX HZ HB HX0
    obtain ⟨k, m, hk1, hk, rfl, HX, HZ, HM, HB⟩ := hrel
    by_cases hlt : k < xs.length
    · obtain ⟨x, hx⟩ : ∃ x, x = xs[k] := ⟨_, rfl⟩
      have hxm : x ∈ xs := by rw [hx]; exact List.getElem_mem _
      obtain ⟨d0, d1, d2⟩ := HC.out k hlt
      rw [← hx] at d0 d1 d2
      have e0 : wr.cell? (ad.add (k * 3)) = some (.int .i64 x.r) := cell_later HB.out d0
      have e1 : wr.cell? ⟨(ad.add (k * 3)).block, (ad.add (k * 3)).off + 1, none⟩ = some (.int .i64 x.s) := cell_later HB.out d1
      have e2 : wr.cell? ⟨(ad.add (k * 3)).block, (ad.add (k * 3)).off + 2, none⟩ = some (.int .i64 x.e) := cell_later HB.out d2
      have hb1 := HS.out x hxm
      have hb2 := HS.out m HM.out.2
      have hw : IntKind.i64.wrap (x.s - m.s) = x.s - m.s := by rw [IntKind.wrap_i64]; omega
      have HSN := Lib.hid (show minS n (xs.take (k + 1)) = min m.s x.s by rw [List.take_succ_eq_append_getElem hlt, minS_snoc, ← hx, HM.out.1])
      have HE := Lib.hid (And.intro e0 (And.intro e1 e2))
      have HXM := Lib.hid hxm
      clear d0 d1 d2 e0 e1 e2 hx hxm
      go_upto_region 7 with fail
      go_cut [27] (fun y wx => y = .bool (decide ((x.s - m.s) < 0)) ∧ Below wr.heap.size wr wx)
      case first =>
        refine regionMI _ _ _ _ _ ad xs.length c k b5 x m rfl rfl (by kernel_rfl) (by kernel_rfl) (by first | simp | exact Nat.le_refl _ | decide) rfl rfl rfl rfl HE.out.1 HE.out.2.1 HE.out.2.2 HX.out hlt hn9 hw ?_
        intro V W_ hb_ hV
        have hVa : V 7 = .bool (decide ((x.s - m.s) < 0)) := hV 7 (by decide)
        have HVa := Lib.hid hVa
        simp [frS, stepS, Exit.then]
        clear hV hVa
        go_wp2_with fail
        go_meet
        case rel => exact ⟨HVa.out, hb_⟩
      case rest =>
      obtain ⟨rfl, hb_⟩ := hcut
      replace HX := Lib.hid (HX.out.below hb_)
      replace HZ := Lib.hid (HZ.out.below hb_)
      have f0 := cell_later hb_ HE.out.1
      have f1 := cell_later hb_ HE.out.2.1
      have f2 := cell_later hb_ HE.out.2.2
      have g0 := HX.out.cell 0
      have g1 := HX.out.cell 1
      have g2 := HX.out.cell 2
      have k0 := HX.out.free 0
      have k1 := HX.out.free 1
      have k2 := HX.out.free 2
      generalize hcb : decide ((x.s - m.s) < 0) = cb
      cases cb with
      | true =>
        have hcmp : (x.s - m.s) < 0 := of_decide_eq_true hcb
        clear hcb
        have HX3 := Lib.hid (show Blk (((wc.setCell ⟨b5, 0, none⟩ (.int .i64 x.r)).setCell ⟨b5, 1, none⟩ (.int .i64 x.s)).setCell ⟨b5, 2, none⟩ (.int .i64 x.e)) b5 25 #[.int .i64 x.r, .int .i64 x.s, .int .i64 x.e] from ((HX.out.set 0 _).set 1 _).set 2 _)
        have hne5 : w.heap.size ≠ b5 := by have := HS0.out; omega
        have HZ3 := Lib.hid (((HZ.out.other (a := ⟨b5, 0, none⟩) (u := .int .i64 x.r) hne5).other (a := ⟨b5, 1, none⟩) (u := .int .i64 x.s) hne5).other (a := ⟨b5, 2, none⟩) (u := .int .i64 x.e) hne5)
        have HBc := HB.out.trans (hb_.mono HB.out.size)
        have h5 : w.heap.size ≤ b5 := by have := HS0.out; omega
        have HB3 := Lib.hid (((HBc.setCell (p := ⟨b5, 0, none⟩) h5 (.int .i64 x.r)).setCell (p := ⟨b5, 1, none⟩) h5 (.int .i64 x.s)).setCell (p := ⟨b5, 2, none⟩) h5 (.int .i64 x.e))
        have HM3 := Lib.hid (show x.s = minS n (xs.take (k + 1)) ∧ x ∈ xs from ⟨by rw [HSN.out]; omega, HXM.out⟩)
        clear HX HZ HBc hb_ HB hcmp hne5 h5
        go_wp2_with fail
        go_roundw
        case rel => exact ⟨k + 1, x, by omega, by omega, by go_num, HX3, HZ3, HM3, HB3⟩
        case measure => simp [intOf]; omega
      | false =>
        have hcmp : ¬ ((x.s - m.s) < 0) := of_decide_eq_false hcb
        clear hcb
        have HB3 := Lib.hid (HB.out.trans (hb_.mono HB.out.size))
        have HM3 := Lib.hid (show m.s = minS n (xs.take (k + 1)) ∧ m ∈ xs from ⟨by rw [HSN.out]; omega, HM.out.2⟩)
        clear hb_ HB hcmp
        go_wp2_with fail
        go_roundw
        case rel => exact ⟨k + 1, m, by omega, by omega, by go_num, HX, HZ, HM3, HB3⟩
        case measure => simp [intOf]; omega
    · have hke : k = xs.length := by omega
      subst hke
      have hms : m.s = minS n xs := by have := HM.out.1; rwa [List.take_length] at this
      have HMS := Lib.hid hms
      obtain ⟨W9, hW9⟩ : ∃ W, W = ((wr.setCell ⟨w.heap.size, 0, none⟩ (.int .i64 m.r)).setCell ⟨w.heap.size, 1, none⟩ (.int .i64 m.s)).setCell ⟨w.heap.size, 2, none⟩ (.int .i64 m.e) := ⟨_, rfl⟩
      have hF : Blk W9 w.heap.size 25 #[.int .i64 m.r, .int .i64 m.s, .int .i64 m.e] := hW9 ▸ ((HZ.out.set 0 _).set 1 _).set 2 _
      have HB9 := Lib.hid (show Below w.heap.size w W9 from hW9 ▸ ((HB.out.setCell (p := ⟨w.heap.size, 0, none⟩) (Nat.le_refl _) (.int .i64 m.r)).setCell (p := ⟨w.heap.size, 1, none⟩) (Nat.le_refl _) (.int .i64 m.s)).setCell (p := ⟨w.heap.size, 2, none⟩) (Nat.le_refl _) (.int .i64 m.e))
      have z0 : W9.cell? ⟨w.heap.size, 0, none⟩ = some (.int .i64 m.r) := hF.cell 0
      have z1 : W9.cell? ⟨w.heap.size, 1, none⟩ = some (.int .i64 m.s) := hF.cell 1
      have z2 : W9.cell? ⟨w.heap.size, 2, none⟩ = some (.int .i64 m.e) := hF.cell 2
      have g0 := HX.out.cell 0
      have g1 := HX.out.cell 1
      have g2 := HX.out.cell 2
      have y0 := HZ.out.cell 0
      have y1 := HZ.out.cell 1
      have y2 := HZ.out.cell 2
      have k0 := HZ.out.free 0
      have k1 := HZ.out.free 1
      have k2 := HZ.out.free 2
      clear hms hF HM HX HZ HB HC HS HN
      go_wp2_with fail
      rw [← hW9]
      refine bodyPost_ret (v := itv m) (by simp [results, Tryz.results72, go_sem, z0, z1, z2]) rfl ?_
      exact ⟨⟨m, rfl, HMS.out⟩, HB9.out⟩
theorem max_fn (w : World) (a b : It) (h : IntKind.i64.wrap (a.e - b.e) = a.e - b.e) : Calls Tryz.prog 71 #[itv a, itv b] w fun e w' => e = .returned (.int .i64 (a.e - b.e)) ∧ Below w.heap.size w w' := by
  have hba := alloc_below w (Obj.cells #[.int .i64 a.r, .int .i64 a.s, .int .i64 a.e] 25)
  have HB := Lib.hid (hba.trans ((alloc_below (w.alloc (Obj.cells #[.int .i64 a.r, .int .i64 a.s, .int .i64 a.e] 25)) (Obj.cells #[.int .i64 b.r, .int .i64 b.s, .int .i64 b.e] 25)).mono hba.size))
  clear hba
  go_enter Tryz.func71, Tryz.ntmps71
  go_wp2_with fail
  go_ret
  exact ⟨rfl, HB.out⟩
abbrev dsMA : List (Option Tmp) := [some 20, some 21, some 22, some 23, some 24, some 25, some 26, some 27]
abbrev needsMA : List (Nat × Nat) := [(3, 1), (3, 2), (4, 3), (6, 0), (6, 4), (6, 5), (7, 6)]
abbrev opsMA : List Op := [.move (.tmp 1), .move (.tmp 0), .move (.tmp 6), .indexAddr 22 (.tmp 21) (.tmp 22), .load 25 (.tmp 23), .load 25 (.tmp 5), .call { callee := .value (.tmp 20), args := #[.tmp 24, .tmp 25], argTypes := #[25, 25] }, .binOp .gtr 3 (.tmp 26) (.const (.int .i64 0)) 3]
abbrev gsMA : List (Option (Nat × Bool)) := [none, none, none, none, none, none, none, none]
def relMA (ad : Addr) (n c k b5 : Nat) (x m : It) : Nat → Value → World → Prop := fun kx vx W => match kx with
  | 0 => vx = .func (.func 71) #[] #[]
  | 1 => vx = .slice (some ad) n c
  | 2 => vx = .int .i64 (k : Nat)
  | 3 => vx = .pointer (some (ad.add (k * 3)))
  | 4 => vx = itv x
  | 5 => vx = itv m
  | 6 => vx = .int .i64 (x.e - m.e)
  | 7 => vx = .bool (decide ((x.e - m.e) > 0))
  | _ => True
set_option maxHeartbeats 1600000 in
theorem regionMA (a : Act) (ops : Array Oper) (rid : Nat) (Q : Exit → Act → World → Prop) (w : World) (ad : Addr) (n c k b5 : Nat) (x m : It) (hops : ops.toList.map (·.op) = opsMA) (hgs : ops.toList.map (·.guard) = gsMA) (hok : dagOkG ops dsMA = true) (hnd : needsOk2 ops needsMA = true) (hsz : 28 ≤ a.tmps.size)
    (h0 : a.tmps.getD 0 undef = .slice (some ad) n c)
    (h1 : a.tmps.getD 1 undef = .func (.func 71) #[] #[])
    (h5 : a.tmps.getD 5 undef = .pointer (some ⟨b5, 0, none⟩))
    (h6 : a.tmps.getD 6 undef = .int .i64 (k : Nat))
    (k0 : w.cell? (ad.add (k * 3)) = some (.int .i64 x.r)) (k1 : w.cell? ⟨(ad.add (k * 3)).block, (ad.add (k * 3)).off + 1, none⟩ = some (.int .i64 x.s)) (k2 : w.cell? ⟨(ad.add (k * 3)).block, (ad.add (k * 3)).off + 2, none⟩ = some (.int .i64 x.e)) (hm : Blk w b5 25 #[.int .i64 m.r, .int .i64 m.s, .int .i64 m.e]) (hk : k < n) (hn : n ≤ 9223372036854775807) (hw : IntKind.i64.wrap (x.e - m.e) = x.e - m.e)
    (hend : ∀ vs W, (fun W => Below w.heap.size w W) W → (∀ j, j < 8 → relMA ad n c k b5 x m j (vs j) W) → Q .normal { a with tmps := frS (fun j => decide (j < 8)) vs 0 dsMA a.tmps } W) :
    (Code.region rid ops true).wp Tryz.prog Q a w := by
  have hlen : ops.size = 8 := by have := congrArg List.length hops; simpa using this
  have hop : ∀ (i : Nat) (o : Oper), ops[i]? = some o → ∀ x, opsMA[i]? = some x → o.op = x := by
    intro i o ho x hx
    rw [← hops, List.getElem?_map, Array.getElem?_toList, ho] at hx
    simpa using hx
  have hgu : ∀ (i : Nat) (o : Oper), ops[i]? = some o → ∀ x, gsMA[i]? = some x → o.guard = x := by
    intro i o ho x hx
    rw [← hgs, List.getElem?_map, Array.getElem?_toList, ho] at hx
    simpa using hx
  rw [← hlen] at hend
  refine wp_region_rel (by kernel_rfl) dsMA hok (fun t ht => Nat.lt_of_lt_of_le (of_decide_eq_true (List.all_eq_true.1 (show dsMA.all (fun d => match d with | some t => decide (t < 28) | none => true) = true from rfl) _ ht)) hsz) (relMA ad n c k b5 x m) (fun W => Below w.heap.size w W) ?_ ?_ ?_ hend
  · intro i v W W' h hb
    unfold relMA at h ⊢
    split at h
    · exact h
    · exact h
    · exact h
    · exact h
    · exact h
    · exact h
    · exact h
    · exact h
    · exact h
  · exact ⟨rfl, rfl, rfl, Nat.le_refl _, fun _ _ => rfl⟩
  intro kx o ho ρ W hb hρ hold hold2 hcon hfun _
  have hkx : kx < 8 := by rw [← hlen]; exact (Array.getElem?_eq_some_iff.1 ho).1
  have e0 : ρ (.tmp 0) = .slice (some ad) n c := (hold 0 (by decide)).trans h0
  have e1 : ρ (.tmp 1) = .func (.func 71) #[] #[] := (hold 1 (by decide)).trans h1
  have e5 : ρ (.tmp 5) = .pointer (some ⟨b5, 0, none⟩) := (hold 5 (by decide)).trans h5
  have e6 : ρ (.tmp 6) = .int .i64 (k : Nat) := (hold 6 (by decide)).trans h6
  match kx, hkx with
  | 0, _ =>
    have hg := hgu 0 o ho _ rfl
    have ho' := hop 0 o ho _ rfl
    simp only [hg]
    exact .inl ⟨_, rfl, .inl (by unfold execOp; rw [ho']; go_simp)⟩
  | 1, _ =>
    have hg := hgu 1 o ho _ rfl
    have ho' := hop 1 o ho _ rfl
    simp only [hg]
    exact .inl ⟨_, rfl, .inl (by unfold execOp; rw [ho']; go_simp)⟩
  | 2, _ =>
    have hg := hgu 2 o ho _ rfl
    have ho' := hop 2 o ho _ rfl
    simp only [hg]
    exact .inl ⟨_, rfl, .inl (by unfold execOp; rw [ho']; go_simp)⟩
  | 3, _ =>
    have hg := hgu 3 o ho _ rfl
    have ho' := hop 3 o ho _ rfl
    simp only [hg]
    have q21 : ρ (.tmp 21) = .slice (some ad) n c := hρ 1 (needs2_get hnd 3 1 (by decide)) 21 rfl
    have q22 : ρ (.tmp 22) = .int .i64 (k : Nat) := hρ 2 (needs2_get hnd 3 2 (by decide)) 22 rfl
    exact .inl ⟨_, rfl, .inl (by unfold execOp; rw [ho']; go_simp)⟩
  | 4, _ =>
    have hg := hgu 4 o ho _ rfl
    have ho' := hop 4 o ho _ rfl
    simp only [hg]
    have q23 : ρ (.tmp 23) = .pointer (some (ad.add (k * 3))) := hρ 3 (needs2_get hnd 4 3 (by decide)) 23 rfl
    have c0 := cell_later hb k0
    have c1 := cell_later hb k1
    have c2 := cell_later hb k2
    exact .inl ⟨_, rfl, .inl (by unfold execOp; rw [ho']; go_simp)⟩
  | 5, _ =>
    have hg := hgu 5 o ho _ rfl
    have ho' := hop 5 o ho _ rfl
    simp only [hg]
    have m0 := (hm.below hb).cell 0
    have m1 := (hm.below hb).cell 1
    have m2 := (hm.below hb).cell 2
    exact .inl ⟨_, rfl, .inl (by unfold execOp; rw [ho']; go_simp)⟩
  | 6, _ =>
    have hg := hgu 6 o ho _ rfl
    have ho' := hop 6 o ho _ rfl
    simp only [hg]
    have q20 : ρ (.tmp 20) = .func (.func 71) #[] #[] := hρ 0 (needs2_get hnd 6 0 (by decide)) 20 rfl
    have q24 : ρ (.tmp 24) = itv x := hρ 4 (needs2_get hnd 6 4 (by decide)) 24 rfl
    have q25 : ρ (.tmp 25) = itv m := hρ 5 (needs2_get hnd 6 5 (by decide)) 25 rfl
    refine .inr (.inr ⟨71, #[itv x, itv m], ?_, ?_⟩)
    · unfold execOp
      rw [ho']
      simp [go_sem, hfun, q20, q24, q25, resolve, Act.eval]
    · refine (max_fn W x m hw).mono ?_
      rintro e W' ⟨rfl, hb'⟩
      exact ⟨_, rfl, hb.trans (hb'.mono hb.size), hb', rfl⟩
  | 7, _ =>
    have hg := hgu 7 o ho _ rfl
    have ho' := hop 7 o ho _ rfl
    simp only [hg]
    have q26 : ρ (.tmp 26) = .int .i64 (x.e - m.e) := hρ 6 (needs2_get hnd 7 6 (by decide)) 26 rfl
    exact .inl ⟨_, rfl, .inl (by unfold execOp; rw [ho']; go_simp)⟩
set_option maxRecDepth 100000 in
theorem max_walk {w : World} {v : Value} {xs : List It} (h : ItsAt w v xs) (h0 : 0 < xs.length) (hl : xs.length ≤ 100000) (n : Int) (hs : ∀ x ∈ xs, 0 ≤ x.e ∧ x.e ≤ 1000000) (hn : n = 0) : Calls Tryz.prog 73 #[v, .func (.func 71) #[] #[]] w fun e w' => (∃ m : It, e = .returned (itv m) ∧ m.e = maxE n xs) ∧ Below w.heap.size w w' := by
  obtain ⟨A, c, rfl, hn9, hz⟩ := h
  obtain ⟨ad, rfl, had⟩ := hz h0
  have HC := Lib.hid had
  have HS := Lib.hid hs
  have HN := Lib.hid hn
  obtain ⟨x0, hx0⟩ : ∃ x, x = xs[0] := ⟨_, rfl⟩
  obtain ⟨d0, d1, d2⟩ := had 0 h0
  rw [← hx0, Nat.zero_mul, add_noneU] at d0 d1 d2
  have hba := alloc_below w (Obj.cells #[Value.int IntKind.i64 0, Value.int IntKind.i64 0, Value.int IntKind.i64 0] 25)
  obtain ⟨W0, hW0⟩ : ∃ W, W = w.alloc (Obj.cells #[Value.int IntKind.i64 0, Value.int IntKind.i64 0, Value.int IntKind.i64 0] 25) := ⟨_, rfl⟩
  have hZ0 : Blk W0 w.heap.size 25 #[Value.int IntKind.i64 0, Value.int IntKind.i64 0, Value.int IntKind.i64 0] := hW0 ▸ row_new _ _
  have hs0 : W0.heap.size = w.heap.size + 1 := by rw [hW0, size_new]
  rw [← hW0] at hba
  have q0 : W0.cell? ad = some (.int .i64 x0.r) := cell_later hba d0
  have q1 : W0.cell? ⟨ad.block, ad.off + 1, none⟩ = some (.int .i64 x0.s) := cell_later hba d1
  have q2 : W0.cell? ⟨ad.block, ad.off + 2, none⟩ = some (.int .i64 x0.e) := cell_later hba d2
  have hbb := alloc_below W0 (Obj.cells #[.int .i64 x0.r, .int .i64 x0.s, .int .i64 x0.e] 25)
  have hX1 : Blk (W0.alloc (Obj.cells #[.int .i64 x0.r, .int .i64 x0.s, .int .i64 x0.e] 25)) W0.heap.size 25 #[.int .i64 x0.r, .int .i64 x0.s, .int .i64 x0.e] := row_new _ _
  have HZ := Lib.hid (hZ0.below hbb)
  have HX := Lib.hid hX1
  have HB := Lib.hid (hba.trans (hbb.mono hba.size))
  have HS0 := Lib.hid hs0
  have HX0 := Lib.hid hx0
  have dl : decide ((xs.length : Int) < 1) = false := by rw [decide_eq_false_iff_not]; omega
  clear had hs hn hz d0 d1 d2 hba hbb hX1 hZ0 hs0 hx0
  go_enter Tryz.func73, Tryz.ntmps73
  go_upto_region 1 with fail
  rw [← hW0]
  clear hW0
  go_upto_region 4 with fail
  generalize W0.alloc _ = W1 at *
  obtain ⟨b5, hb5⟩ : ∃ b, b = W0.heap.size := ⟨_, rfl⟩
  rw [← hb5] at HX HS0 ⊢
  clear hb5 q0 q1 q2
  go_wp2_with fail
  go_loopw [6] (fun i wr => ∃ (k : Nat) (m : It), 1 ≤ k ∧ k ≤ xs.length ∧ i = .int .i64 k ∧ Hid (Blk wr b5 25 #[.int .i64 m.r, .int .i64 m.s, .int .i64 m.e]) ∧ Hid (Blk wr w.heap.size 25 #[Value.int IntKind.i64 0, Value.int IntKind.i64 0, Value.int IntKind.i64 0]) ∧ Hid (m.e = maxE n (xs.take k) ∧ m ∈ xs) ∧ Hid (Below w.heap.size w wr)) (fun i _ => xs.length - (intOf i).toNat)
  case atStart => exact ⟨1, x0, Nat.le_refl _, h0, rfl, HX, HZ, (by
    have hx0 := HX0.out
    have hm : x0 ∈ xs := by rw [hx0]; exact List.getElem_mem _
    refine ⟨?_, hm⟩
    rw [List.take_succ_eq_append_getElem h0, List.take_zero, List.nil_append, ← hx0]
    have := HN.out
    have := HS.out x0 hm
    show x0.e = max x0.e n
    omega), HB⟩
  case round =>
    clear HX HZ HB HX0
    obtain ⟨k, m, hk1, hk, rfl, HX, HZ, HM, HB⟩ := hrel
    by_cases hlt : k < xs.length
    · obtain ⟨x, hx⟩ : ∃ x, x = xs[k] := ⟨_, rfl⟩
      have hxm : x ∈ xs := by rw [hx]; exact List.getElem_mem _
      obtain ⟨d0, d1, d2⟩ := HC.out k hlt
      rw [← hx] at d0 d1 d2
      have e0 : wr.cell? (ad.add (k * 3)) = some (.int .i64 x.r) := cell_later HB.out d0
      have e1 : wr.cell? ⟨(ad.add (k * 3)).block, (ad.add (k * 3)).off + 1, none⟩ = some (.int .i64 x.s) := cell_later HB.out d1
      have e2 : wr.cell? ⟨(ad.add (k * 3)).block, (ad.add (k * 3)).off + 2, none⟩ = some (.int .i64 x.e) := cell_later HB.out d2
      have hb1 := HS.out x hxm
      have hb2 := HS.out m HM.out.2
      have hw : IntKind.i64.wrap (x.e - m.e) = x.e - m.e := by rw [IntKind.wrap_i64]; omega
      have HSN := Lib.hid (show maxE n (xs.take (k + 1)) = max m.e x.e by rw [List.take_succ_eq_append_getElem hlt, maxE_snoc, ← hx, HM.out.1])
      have HE := Lib.hid (And.intro e0 (And.intro e1 e2))
      have HXM := Lib.hid hxm
      clear d0 d1 d2 e0 e1 e2 hx hxm
      go_upto_region 7 with fail
      go_cut [27] (fun y wx => y = .bool (decide ((x.e - m.e) > 0)) ∧ Below wr.heap.size wr wx)
      case first =>
        refine regionMA _ _ _ _ _ ad xs.length c k b5 x m rfl rfl (by kernel_rfl) (by kernel_rfl) (by first | simp | exact Nat.le_refl _ | decide) rfl rfl rfl rfl HE.out.1 HE.out.2.1 HE.out.2.2 HX.out hlt hn9 hw ?_
        intro V W_ hb_ hV
        have hVa : V 7 = .bool (decide ((x.e - m.e) > 0)) := hV 7 (by decide)
        have HVa := Lib.hid hVa
        simp [frS, stepS, Exit.then]
        clear hV hVa
        go_wp2_with fail
        go_meet
        case rel => exact ⟨HVa.out, hb_⟩
      case rest =>
      obtain ⟨rfl, hb_⟩ := hcut
      replace HX := Lib.hid (HX.out.below hb_)
      replace HZ := Lib.hid (HZ.out.below hb_)
      have f0 := cell_later hb_ HE.out.1
      have f1 := cell_later hb_ HE.out.2.1
      have f2 := cell_later hb_ HE.out.2.2
      have g0 := HX.out.cell 0
      have g1 := HX.out.cell 1
      have g2 := HX.out.cell 2
      have k0 := HX.out.free 0
      have k1 := HX.out.free 1
      have k2 := HX.out.free 2
      generalize hcb : decide ((x.e - m.e) > 0) = cb
      cases cb with
      | true =>
        have hcmp : (x.e - m.e) > 0 := of_decide_eq_true hcb
        clear hcb
        have HX3 := Lib.hid (show Blk (((wc.setCell ⟨b5, 0, none⟩ (.int .i64 x.r)).setCell ⟨b5, 1, none⟩ (.int .i64 x.s)).setCell ⟨b5, 2, none⟩ (.int .i64 x.e)) b5 25 #[.int .i64 x.r, .int .i64 x.s, .int .i64 x.e] from ((HX.out.set 0 _).set 1 _).set 2 _)
        have hne5 : w.heap.size ≠ b5 := by have := HS0.out; omega
        have HZ3 := Lib.hid (((HZ.out.other (a := ⟨b5, 0, none⟩) (u := .int .i64 x.r) hne5).other (a := ⟨b5, 1, none⟩) (u := .int .i64 x.s) hne5).other (a := ⟨b5, 2, none⟩) (u := .int .i64 x.e) hne5)
        have HBc := HB.out.trans (hb_.mono HB.out.size)
        have h5 : w.heap.size ≤ b5 := by have := HS0.out; omega
        have HB3 := Lib.hid (((HBc.setCell (p := ⟨b5, 0, none⟩) h5 (.int .i64 x.r)).setCell (p := ⟨b5, 1, none⟩) h5 (.int .i64 x.s)).setCell (p := ⟨b5, 2, none⟩) h5 (.int .i64 x.e))
        have HM3 := Lib.hid (show x.e = maxE n (xs.take (k + 1)) ∧ x ∈ xs from ⟨by rw [HSN.out]; omega, HXM.out⟩)
        clear HX HZ HBc hb_ HB hcmp hne5 h5
        go_wp2_with fail
        go_roundw
        case rel => exact ⟨k + 1, x, by omega, by omega, by go_num, HX3, HZ3, HM3, HB3⟩
        case measure => simp [intOf]; omega
      | false =>
        have hcmp : ¬ ((x.e - m.e) > 0) := of_decide_eq_false hcb
        clear hcb
        have HB3 := Lib.hid (HB.out.trans (hb_.mono HB.out.size))
        have HM3 := Lib.hid (show m.e = maxE n (xs.take (k + 1)) ∧ m ∈ xs from ⟨by rw [HSN.out]; omega, HM.out.2⟩)
        clear hb_ HB hcmp
        go_wp2_with fail
        go_roundw
        case rel => exact ⟨k + 1, m, by omega, by omega, by go_num, HX, HZ, HM3, HB3⟩
        case measure => simp [intOf]; omega
    · have hke : k = xs.length := by omega
      subst hke
      have hms : m.e = maxE n xs := by have := HM.out.1; rwa [List.take_length] at this
      have HMS := Lib.hid hms
      obtain ⟨W9, hW9⟩ : ∃ W, W = ((wr.setCell ⟨w.heap.size, 0, none⟩ (.int .i64 m.r)).setCell ⟨w.heap.size, 1, none⟩ (.int .i64 m.s)).setCell ⟨w.heap.size, 2, none⟩ (.int .i64 m.e) := ⟨_, rfl⟩
      have hF : Blk W9 w.heap.size 25 #[.int .i64 m.r, .int .i64 m.s, .int .i64 m.e] := hW9 ▸ ((HZ.out.set 0 _).set 1 _).set 2 _
      have HB9 := Lib.hid (show Below w.heap.size w W9 from hW9 ▸ ((HB.out.setCell (p := ⟨w.heap.size, 0, none⟩) (Nat.le_refl _) (.int .i64 m.r)).setCell (p := ⟨w.heap.size, 1, none⟩) (Nat.le_refl _) (.int .i64 m.s)).setCell (p := ⟨w.heap.size, 2, none⟩) (Nat.le_refl _) (.int .i64 m.e))
      have z0 : W9.cell? ⟨w.heap.size, 0, none⟩ = some (.int .i64 m.r) := hF.cell 0
      have z1 : W9.cell? ⟨w.heap.size, 1, none⟩ = some (.int .i64 m.s) := hF.cell 1
      have z2 : W9.cell? ⟨w.heap.size, 2, none⟩ = some (.int .i64 m.e) := hF.cell 2
      have g0 := HX.out.cell 0
      have g1 := HX.out.cell 1
      have g2 := HX.out.cell 2
      have y0 := HZ.out.cell 0
      have y1 := HZ.out.cell 1
      have y2 := HZ.out.cell 2
      have k0 := HZ.out.free 0
      have k1 := HZ.out.free 1
      have k2 := HZ.out.free 2
      clear hms hF HM HX HZ HB HC HS HN
      go_wp2_with fail
      rw [← hW9]
      refine bodyPost_ret (v := itv m) (by simp [results, Tryz.results73, go_sem, z0, z1, z2]) rfl ?_
      exact ⟨⟨m, rfl, HMS.out⟩, HB9.out⟩
end Go.Proofs.YthoegenipbohmaaGreatDoor
