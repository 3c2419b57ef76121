/- rubricatorlaw11.WordMarks answers true. The lemma of the region that draws its order is printed by wip/tools/mkmarks.py. -/
import Derived.Test.YtgdpfjipgmfjfaaGreatDoorWrdAw
import Derived.Test.YtgdpfjipgmfjfaaGreatDoorConc
import Derived.Test.YtgdpfjipgmfjfaaGreatDoorDagG
import Derived.Deep.DeepCutAuto
namespace Go.Proofs.YtgdpfjipgmfjfaaGreatDoor
open Go.RowKit
set_option linter.unusedVariables false
set_option linter.unusedSimpArgs false

theorem own_lit1 (w : World) (e : TypeId) (a : Value) : (w.alloc (.cells #[a] e)).ownsRow w.heap.size e 1 (.slice (some ⟨w.heap.size, 0, none⟩) 1 1) 1 [a] :=
  ⟨rfl, .inr ⟨w.heap.size, 1, #[a], rfl, Nat.le_refl _, row_new _ _, by omega, by unfold maxLen; omega, rfl, rfl⟩⟩
theorem cut30 (n : Nat) : ∃ k : Nat, ((if 30 < (n : Int) then 30 else (n : Int)) = k ∧ min (n : Int) 30 = k ∧ (if (n : Int) ≤ 30 then (n : Int) else 30) = k) ∧ (k ≤ 30 ∧ k ≤ n) := by
  by_cases h : 30 < n
  · exact ⟨30, ⟨by rw [if_pos (by omega)]; rfl, by omega, by rw [if_neg (by omega)]; rfl⟩, by omega⟩
  · exact ⟨n, ⟨by rw [if_neg (by omega)], by omega, by rw [if_pos (by omega)]⟩, by omega⟩
theorem u64_emod (a : Int) : IntKind.u64.wrap a = a % 18446744073709551616 := by simp [IntKind.wrap, IntKind.bits, IntKind.signed]
/-- A place of a text off any number. -/
theorem modLen (p : Int) (n : Nat) (hn : n ≤ 30) : ∃ q : Nat, q ≤ n ∧ IntKind.u64.wrap ((n : Int) + 1) = (n : Int) + 1 ∧ (IntKind.u64.wrap p).tmod ((n : Int) + 1) = q := by
  have e1 : IntKind.u64.wrap ((n : Int) + 1) = (n : Int) + 1 := by rw [u64_emod]; omega
  have h0 : 0 ≤ IntKind.u64.wrap p := by rw [u64_emod]; exact Int.emod_nonneg _ (by decide)
  generalize IntKind.u64.wrap p = x at *
  rw [Int.tmod_eq_emod_of_nonneg h0]
  have h1 := Int.emod_nonneg x (show ((n : Int) + 1) ≠ 0 by omega)
  have h2 := Int.emod_lt_of_pos x (show (0 : Int) < (n : Int) + 1 by omega)
  generalize x % ((n : Int) + 1) = y at *
  exact ⟨y.toNat, by omega, e1, by omega⟩
theorem ListV.drop {w : World} {A : Option Addr} {n c q : Nat} {zs : List Int} (h : ListV w (.slice A n c) zs) (hq : q ≤ n) : ListV w (sliced A q n c 1) (zs.drop q) := by
  have hn : n = zs.length := by obtain ⟨⟨A', c', e, _⟩, _⟩ := h; injection e
  obtain ⟨A1, c1, e1, h1, h2, h3⟩ := h.form
  injection e1 with e1 e2 e3
  subst e3
  have hl : (zs.drop q).length = n - q := by rw [List.length_drop]; omega
  unfold sliced
  cases A with
  | none =>
    have hc0 := h3 e1.symm
    have : n = 0 := by omega
    refine ⟨⟨none, 0, ?_, by omega, fun hp => by omega⟩, .inl ?_⟩
    · rw [hl]
      have : c - q = 0 := by omega
      rw [this]
      split <;> rfl
    · have a1 : n - q = 0 := by omega
      have a2 : c - q = 0 := by omega
      rw [a1, a2]
      split <;> rfl
  | some ad =>
    by_cases hcq : c = q
    · rw [if_pos hcq]
      refine ⟨⟨some ad, c - q, by rw [hl], by omega, fun hp => by omega⟩, .inr ⟨_, _, _, rfl, by omega⟩⟩
    · rw [if_neg hcq]
      refine ⟨⟨some (ad.add (q * 1)), c - q, by rw [hl]; rfl, by omega, fun hp => ⟨_, rfl, fun j u hu => ?_⟩⟩, .inr ⟨_, _, _, rfl, by omega⟩⟩
      obtain ⟨⟨A', c', e, hz0, hz⟩, _⟩ := h
      injection e with e1 e2 e3
      subst e1
      obtain ⟨ad', e4, h5⟩ := hz (by omega)
      injection e4 with e4
      subst e4
      have := h5 (q + j) u (by
        unfold intz at hu ⊢
        rw [List.map_drop, List.getElem?_drop] at hu
        exact hu)
      rw [Nat.mul_one, Addr.add_add]
      exact this

abbrev dsMK : List (Option Tmp) := [some 36, some 37, some 38, some 39, some 40, some 41, some 42, some 43, some 44, some 6]
abbrev needsMK : List (Nat × Nat) := [(2, 0), (2, 1), (6, 4), (6, 5), (7, 2), (7, 3), (7, 6), (8, 7), (9, 8)]
abbrev opsMK : List Op := [.move (.tmp 0), .move (.tmp 1), .slice 36 (.tmp 36) none (some (.tmp 37)) none, .buildSlice 36 1 #[(0, (.const (.int .i64 769)))], .move (.tmp 0), .move (.tmp 1), .slice 36 (.tmp 40) (some (.tmp 41)) none none, .buildSlice 86 3 #[(0, (.tmp 38)), (1, (.tmp 39)), (2, (.tmp 42))], .call { callee := .value (.func 46), args := #[.tmp 43], argTypes := #[86] }, .assign (.tmp 44)]
abbrev gsMK : List (Option (Nat × Bool)) := [none, none, none, none, none, none, none, none, none, none]
def relMK (A : Option Addr) (n c q B0 : Nat) (zs : List Int) : Nat → Value → World → Prop := fun kx vx W => match kx with
  | 0 => vx = .slice A n c
  | 1 => vx = .int .i64 q
  | 2 => vx = .slice A q c
  | 3 => ListV W vx [769]
  | 4 => vx = .slice A n c
  | 5 => vx = .int .i64 q
  | 6 => vx = sliced A q n c 1
  | 7 => ∃ g u1 u2 u3, vx = .slice (some ⟨g, 0, none⟩) 3 3 ∧ W.cell? ⟨g, 0, none⟩ = some u1 ∧ W.cell? ⟨g, 1, none⟩ = some u2 ∧ W.cell? ⟨g, 2, none⟩ = some u3 ∧ ListV W u1 (zs.take q) ∧ ListV W u2 [769] ∧ ListV W u3 (zs.drop q)
  | 8 => IntsAt W B0 vx (zs.take q ++ [769] ++ zs.drop q)
  | 9 => IntsAt W B0 vx (zs.take q ++ [769] ++ zs.drop q)
  | _ => True
set_option maxHeartbeats 1600000 in
theorem regionMK (a : Act) (ops : Array Oper) (rid : Nat) (Q : Exit → Act → World → Prop) (w : World) (A : Option Addr) (n c q B0 : Nat) (zs : List Int) (hops : ops.toList.map (·.op) = opsMK) (hgs : ops.toList.map (·.guard) = gsMK) (hok : dagOkG ops dsMK = true) (hnd : needsOk2 ops needsMK = true) (hsz : 45 ≤ a.tmps.size)
    (h0 : a.tmps.getD 0 undef = .slice A n c)
    (h1 : a.tmps.getD 1 undef = .int .i64 q)
    (hl1 : ListV w (.slice A q c) (zs.take q)) (hl3 : ListV w (sliced A q n c 1) (zs.drop q)) (hqn : q ≤ n) (hnc : n ≤ c) (hz : zs.length ≤ 1000) (hB : B0 = w.heap.size)
    (hend : ∀ vs W, (fun W => Below w.heap.size w W) W → (∀ j, j < 10 → relMK A n c q B0 zs j (vs j) W) → Q .normal { a with tmps := frS (fun j => decide (j < 10)) vs 0 dsMK a.tmps } W) :
    (Code.region rid ops true).wp Tryz.prog Q a w := by
  have hlen : ops.size = 10 := by have := congrArg List.length hops; simpa using this
  have hop : ∀ (i : Nat) (o : Oper), ops[i]? = some o → ∀ x, opsMK[i]? = some x → o.op = x := by
    intro i o ho x hx
    rw [← hops, List.getElem?_map, Array.getElem?_toList, ho] at hx
    simpa using hx
  have hgu : ∀ (i : Nat) (o : Oper), ops[i]? = some o → ∀ x, gsMK[i]? = some x → o.guard = x := by
    intro i o ho x hx
    rw [← hgs, List.getElem?_map, Array.getElem?_toList, ho] at hx
    simpa using hx
  rw [← hlen] at hend
  refine wp_region_rel (by kernel_rfl) dsMK hok (fun t ht => Nat.lt_of_lt_of_le (of_decide_eq_true (List.all_eq_true.1 (show dsMK.all (fun d => match d with | some t => decide (t < 45) | none => true) = true from rfl) _ ht)) hsz) (relMK A n c q B0 zs) (fun W => Below w.heap.size w W) ?_ ?_ ?_ hend
  · intro i v W W' h hb
    unfold relMK at h ⊢
    split at h
    · exact h
    · exact h
    · exact h
    · exact h.below hb
    · exact h
    · exact h
    · exact h
    · exact (by obtain ⟨g, u1, u2, u3, e, k0, k1, k2, l1, l2, l3⟩ := h; exact ⟨g, u1, u2, u3, e, cell_later hb k0, cell_later hb k1, cell_later hb k2, l1.below hb, l2.below hb, l3.below hb⟩)
    · exact own_below h hb
    · exact own_below h hb
    · exact h
  · exact ⟨rfl, rfl, rfl, Nat.le_refl _, fun _ _ => rfl⟩
  intro kx o ho ρ W hb hρ hold hold2 hcon hfun _
  have hkx : kx < 10 := by rw [← hlen]; exact (Array.getElem?_eq_some_iff.1 ho).1
  have e0 : ρ (.tmp 0) = .slice A n c := (hold 0 (by decide)).trans h0
  have e1 : ρ (.tmp 1) = .int .i64 q := (hold 1 (by decide)).trans h1
  match kx, hkx with
  | 0, _ =>
    have hg := hgu 0 o ho _ rfl
    have ho' := hop 0 o ho _ rfl
    simp only [hg]
    exact .inl ⟨_, rfl, .inl (by unfold execOp; rw [ho']; go_simp)⟩
  | 1, _ =>
    have hg := hgu 1 o ho _ rfl
    have ho' := hop 1 o ho _ rfl
    simp only [hg]
    exact .inl ⟨_, rfl, .inl (by unfold execOp; rw [ho']; go_simp)⟩
  | 2, _ =>
    have hg := hgu 2 o ho _ rfl
    have ho' := hop 2 o ho _ rfl
    simp only [hg]
    have q36 : ρ (.tmp 36) = .slice A n c := hρ 0 (needs2_get hnd 2 0 (by decide)) 36 rfl
    have q37 : ρ (.tmp 37) = .int .i64 q := hρ 1 (needs2_get hnd 2 1 (by decide)) 37 rfl
    have hqc : q ≤ c := Nat.le_trans hqn hnc
    exact .inl ⟨_, rfl, .inl (by unfold execOp; rw [ho']; go_simp)⟩
  | 3, _ =>
    have hg := hgu 3 o ho _ rfl
    have ho' := hop 3 o ho _ rfl
    simp only [hg]
    refine .inr (.inl ⟨.slice (some ⟨W.heap.size, 0, none⟩) 1 1, W.alloc (Obj.cells #[.int .i64 769] 3), hb.trans ((alloc_below W _).mono hb.size), alloc_below W _, ListV.of_own (zs := [769]) (own_lit1 W _ _), .inl ?_⟩)
    unfold execOp
    rw [ho']
    go_simp
  | 4, _ =>
    have hg := hgu 4 o ho _ rfl
    have ho' := hop 4 o ho _ rfl
    simp only [hg]
    exact .inl ⟨_, rfl, .inl (by unfold execOp; rw [ho']; go_simp)⟩
  | 5, _ =>
    have hg := hgu 5 o ho _ rfl
    have ho' := hop 5 o ho _ rfl
    simp only [hg]
    exact .inl ⟨_, rfl, .inl (by unfold execOp; rw [ho']; go_simp)⟩
  | 6, _ =>
    have hg := hgu 6 o ho _ rfl
    have ho' := hop 6 o ho _ rfl
    simp only [hg]
    have q40 : ρ (.tmp 40) = .slice A n c := hρ 4 (needs2_get hnd 6 4 (by decide)) 40 rfl
    have q41 : ρ (.tmp 41) = .int .i64 q := hρ 5 (needs2_get hnd 6 5 (by decide)) 41 rfl
    exact .inl ⟨_, rfl, .inl (by unfold execOp; rw [ho']; unfold sliced; go_simp)⟩
  | 7, _ =>
    have hg := hgu 7 o ho _ rfl
    have ho' := hop 7 o ho _ rfl
    simp only [hg]
    have q38 : ρ (.tmp 38) = .slice A q c := hρ 2 (needs2_get hnd 7 2 (by decide)) 38 rfl
    have q39 : ListV W (ρ (.tmp 39)) [769] := hρ 3 (needs2_get hnd 7 3 (by decide)) 39 rfl
    have q42 : ρ (.tmp 42) = sliced A q n c 1 := hρ 6 (needs2_get hnd 7 6 (by decide)) 42 rfl
    obtain ⟨A2, c2, e26, _⟩ := q39.form
    rw [e26] at q39
    have hbx := alloc_below W (Obj.cells #[.slice A q c, .slice A2 ([769] : List Int).length c2, sliced A q n c 1] 36)
    have hr := (cells_of_row (row_new W (Obj.cells #[.slice A q c, .slice A2 ([769] : List Int).length c2, sliced A q n c 1] 36))).1
    refine .inr (.inl ⟨.slice (some ⟨W.heap.size, 0, none⟩) 3 3, W.alloc (Obj.cells #[.slice A q c, .slice A2 ([769] : List Int).length c2, sliced A q n c 1] 36), hb.trans (hbx.mono hb.size), hbx, ⟨W.heap.size, _, _, _, rfl, hr 0, hr 1, hr 2, (hl1.below hb).below hbx, q39.below hbx, (hl3.below hb).below hbx⟩, .inl ?_⟩)
    clear hr hbx
    unfold execOp
    rw [ho']
    unfold sliced at *
    go_simp
  | 8, _ =>
    have hg := hgu 8 o ho _ rfl
    have ho' := hop 8 o ho _ rfl
    simp only [hg]
    have q43 : ∃ g u1 u2 u3, (ρ (.tmp 43)) = .slice (some ⟨g, 0, none⟩) 3 3 ∧ W.cell? ⟨g, 0, none⟩ = some u1 ∧ W.cell? ⟨g, 1, none⟩ = some u2 ∧ W.cell? ⟨g, 2, none⟩ = some u3 ∧ ListV W u1 (zs.take q) ∧ ListV W u2 [769] ∧ ListV W u3 (zs.drop q) := hρ 7 (needs2_get hnd 8 7 (by decide)) 43 rfl
    obtain ⟨g, u1, u2, u3, eg, k0, k1, k2, l1, l2, l3⟩ := q43
    refine .inr (.inr ⟨46, #[.slice (some ⟨g, 0, none⟩) 3 3], ?_, ?_⟩)
    · unfold execOp
      rw [ho']
      simp [go_sem, hfun, eg, resolve, Act.eval]
    · refine (concat_walk (w := W) (g := g) (cap := 3) [zs.take q, [769], zs.drop q] [u1, u2, u3] rfl (by simp) (fun i l u h1 h2 => by
        match i, h1, h2 with
        | 0, h1, h2 => cases h1; cases h2; exact l1
        | 1, h1, h2 => cases h1; cases h2; exact l2
        | 2, h1, h2 => cases h1; cases h2; exact l3
        | nx + 3, h1, h2 => cases h1) (fun i u h => by
        match i, h with
        | 0, h => cases h; exact k0
        | 1, h => cases h; exact k1
        | 2, h => cases h; exact k2
        | nx + 3, h => cases h) (by simp; omega) (by simp; omega) (by simp)).mono ?_
      rintro e W' ⟨v', rfl, hr', hb'⟩
      have hflat : ([zs.take q, [769], zs.drop q] : List (List Int)).flatten = zs.take q ++ [769] ++ zs.drop q := by simp
      rw [hflat] at hr'
      exact ⟨v', rfl, hb.trans (hb'.mono hb.size), hb', own_base hr' (by rw [hB]; exact hb.size)⟩
  | 9, _ =>
    have hg := hgu 9 o ho _ rfl
    have ho' := hop 9 o ho _ rfl
    simp only [hg]
    have q44 : IntsAt W B0 (ρ (.tmp 44)) (zs.take q ++ [769] ++ zs.drop q) := hρ 8 (needs2_get hnd 9 8 (by decide)) 44 rfl
    exact .inl ⟨ρ (.tmp 44), q44, .inl (by unfold execOp; rw [ho']; rfl)⟩
set_option maxRecDepth 100000 in
set_option maxHeartbeats 3200000 in
theorem wordMarks_walk {v0 : Value} {zs0 : List Int} (w : World) (hl0 : ListV w v0 zs0) (p0 : Int) (hp0 : (Lit.int .i64 p0).wf = true) (hE : Env w) (hT : EnvT w) : Calls Tryz.prog 12 #[v0, .int .i64 p0] w fun e w' => e = .returned (.bool true) ∧ Below w.heap.size w w' := by
  have HLD := Lib.hid (load_calls w hE hT)
  have HA := Lib.hid (fun (W : World) (hb : Below w.heap.size w W) => awake11_walk W (hE.below hb) (hT.below hb))
  have HEd := Lib.hid (fun (W : World) (m : Nat) (zs : List Int) (v : Value) (ht : TabAt W m files) (hl : ListAt W v zs) (p : Int) (hp : (Lit.int .i64 p).wf = true) => wedgef_walk ht hl p hp)
  have HWd := Lib.hid (fun (W : World) (m : Nat) (ht : TabAt W m files) (r : Int) => word_acc_walk ht files_ok r)
  have Hpre := Lib.hid files_words
  generalize files = Φ at *
  clear hE hT hp0
  obtain ⟨A, c, rfl, hac, han, _⟩ := hl0.form
  obtain ⟨k, hk1, hk2⟩ := cut30 zs0.length
  have HAL := Lib.hid (hl0.cut hk2.2)
  obtain ⟨zs, hzs, hzl⟩ : ∃ zs : List Int, zs = zs0.take k ∧ zs.length = k := ⟨_, rfl, by rw [List.length_take]; omega⟩
  rw [← hzs] at HAL
  obtain ⟨m1, m2, m3⟩ := hk1
  have hk30 : zs.length ≤ 30 := by omega
  have hkn : zs.length ≤ zs0.length := by omega
  clear hl0 hzs hk2
  subst hzl
  obtain ⟨q, hq, b1, b2⟩ := modLen p0 zs.length hk30
  go_enter Tryz.func12, Tryz.ntmps12
  go_wp2_with fail
  refine HLD.out.mono ?_
  rintro e w1 ⟨rfl, ht, hb1⟩
  have HT1 := Lib.hid ht
  have HB1 := Lib.hid hb1
  have HL1 := Lib.hid (HAL.out.below hb1)
  clear ht hb1 HLD HAL m1 m2 m3
  obtain ⟨AH, hAH⟩ : ∃ AH : Sp.Str, AH = txOf Φ.word (zs.getD (q - 1) 0) [] := ⟨_, rfl⟩
  obtain ⟨nl, hnl⟩ : ∃ nl : Bool, nl = (decide (q = 0) || !(AH == [76, 101, 116, 116, 101, 114])) := ⟨_, rfl⟩
  have HAH := Lib.hid hAH
  have Hnl := Lib.hid hnl
  clear hAH hnl
  go_upto_region 4 with fail
  go_cut [34] (fun x wx => x = .bool nl ∧ Below w1.heap.size w1 wx)
  case first =>
    by_cases h0 : 0 < q
    · obtain ⟨ad, rfl, hcell⟩ := HL1.out.cell (q - 1) (by omega)
      have hlt : q - 1 < zs.length := by omega
      have d0 : (((q : Nat) : Int) == 0) = false := by rw [beq_eq_false_iff_ne]; omega
      have a1 : IntKind.i64.wrap ((q : Int) - 1) = ((q - 1 : Nat) : Int) := by rw [IntKind.wrap_i64]; omega
      have a2 : wrap64 ((q : Int) - 1) = ((q - 1 : Nat) : Int) := by unfold wrap64; omega
      generalize zs.getD (q - 1) 0 = z at *
      go_wp2_with fail
      refine (HWd.out _ _ HT1.out z).mono ?_
      rintro e w3 ⟨rfl, hb3⟩
      rw [← HAH.out]
      obtain ⟨S, hS⟩ : ∃ S : ByteArray, S = ⟨AH.toArray⟩ := ⟨_, rfl⟩
      have HS := Lib.hid (show S.toList = AH by rw [hS]; exact toBl _)
      rw [← hS]
      clear hS
      cases k1 : (S.toList == [76, 101, 116, 116, 101, 114]) with
      | true =>
        go_wp2_with fail
        go_meet
        case rel => exact ⟨by rw [Hnl.out, decide_eq_false (by omega), ← HS.out, k1]; rfl, hb3⟩
      | false =>
        go_wp2_with fail
        go_meet
        case rel => exact ⟨by rw [Hnl.out, decide_eq_false (by omega), ← HS.out, k1]; rfl, hb3⟩
    · have h00 : q = 0 := by omega
      have d0 : (((q : Nat) : Int) == 0) = true := by rw [beq_iff_eq]; omega
      go_wp2_with fail
      go_meet
      case rel => exact ⟨by rw [Hnl.out, decide_eq_true h00]; rfl, Below.refl _ _⟩
  case rest =>
  obtain ⟨rfl, hb_⟩ := hcut
  replace HT1 := Lib.hid (HT1.out.below hb_)
  replace HL1 := Lib.hid (HL1.out.below hb_)
  replace HB1 := Lib.hid (HB1.out.trans (hb_.mono HB1.out.size))
  clear hb_
  cases nl; rotate_left
  · go_wp2_with fail
    refine (HA.out _ HB1.out).mono ?_
    rintro e w9 ⟨rfl, hb9⟩
    have HB9 := Lib.hid (HB1.out.trans (hb9.mono HB1.out.size))
    clear hb9
    go_wp2_with fail
    go_ret
    exact ⟨rfl, HB9.out⟩
  have hpos : 0 < q ∧ AH = [76, 101, 116, 116, 101, 114] := by
    have h := Hnl.out
    have h1 : decide (q = 0) = false := by cases hd : decide (q = 0) with | false => rfl | true => rw [hd] at h; cases h
    rw [h1, Bool.false_or] at h
    refine ⟨by have := of_decide_eq_false h1; omega, ?_⟩
    cases hc : (AH == [76, 101, 116, 116, 101, 114]) with
    | true => exact beq_iff_eq.1 hc
    | false => rw [hc] at h; cases h
  go_upto_region 6 with fail
  go_cut [6] (fun x wx => IntsAt wx wc.heap.size x (zs.take q ++ [769] ++ zs.drop q) ∧ Below wc.heap.size wc wx)
  case first =>
    refine regionMK _ _ _ _ _ A zs.length c q wc.heap.size zs rfl rfl (by kernel_rfl) (by kernel_rfl) (by first | simp | exact Nat.le_refl _ | decide) rfl rfl (HL1.out.cut hq) (HL1.out.drop hq) hq (by omega) (by omega) rfl ?_
    intro V W_ hb_ hV
    have hVa : IntsAt W_ wc.heap.size (V 9) (zs.take q ++ [769] ++ zs.drop q) := hV 9 (by decide)
    have HVa := Lib.hid hVa
    simp [frS, stepS, Exit.then]
    clear hV hVa
    go_wp2_with fail
    go_meet
    case rel => exact ⟨HVa.out, hb_⟩
  case rest =>
  obtain ⟨hr_, hb_⟩ := hcut
  have hxl : (zs.take q).length = q := by rw [List.length_take]; omega
  have hM := words_marked Hpre.out (zs.take q) (zs.drop q) (by rw [hxl]; exact hpos.1) (by
    rw [hxl, ← hpos.2, HAH.out]
    congr 1
    rw [List.getD_eq_getElem?_getD, List.getD_eq_getElem?_getD, List.getElem?_take, if_pos (by omega)])
  rw [List.take_append_drop, hxl] at hM
  obtain ⟨ls, hls⟩ : ∃ ls, ls = zs.take q ++ [769] ++ zs.drop q := ⟨_, rfl⟩
  rw [← hls] at hr_ hM
  have hll : ls.length = zs.length + 1 := by rw [hls, List.length_append, List.length_append, List.length_take, List.length_drop]; simp; omega
  have Hown := Lib.hid (show edgeW (wOf Φ ls) ls.length (q : Nat) = false by rw [hll]; exact hM.own)
  have Hsame := Lib.hid (show ∀ i : Nat, i < zs.length → edgeW (wOf Φ ls) ls.length (phi q i) = edgeW (wOf Φ zs) zs.length (i : Nat) from fun i hi => by rw [hll]; exact hM.edge i hi)
  obtain ⟨A2, c2, rfl⟩ := own_slice hr_
  have HL2 := Lib.hid (ListV.of_own hr_)
  have HT2 := Lib.hid (HT1.out.below hb_)
  have HLz := Lib.hid (HL1.out.below hb_)
  have HB2 := Lib.hid (HB1.out.trans (hb_.mono HB1.out.size))
  have hls31 : ls.length ≤ 31 := by omega
  clear hr_ hb_ hls hll hM HT1 HB1 HL1 HAH Hnl hpos hxl
  go_wp2_with fail
  refine (HEd.out _ _ _ _ HT2.out HL2.out.1 (q : Nat) (wf_i64 (by omega) (by omega))).mono ?_
  rintro e w5 ⟨rfl, hb5⟩
  rw [Hown.out]
  replace HT2 := Lib.hid (HT2.out.below hb5)
  replace HL2 := Lib.hid (HL2.out.below hb5)
  replace HLz := Lib.hid (HLz.out.below hb5)
  replace HB2 := Lib.hid (HB2.out.trans (hb5.mono HB2.out.size))
  clear hb5 Hown
  go_wp2_with fail
  go_loopw [51] (fun i wr => ∃ j : Nat, j ≤ zs.length ∧ i = .int .i64 j ∧ Hid (Below w5.heap.size w5 wr)) (fun i _ => zs.length - (intOf i).toNat)
  case atStart => exact ⟨0, by omega, rfl, Below.refl _ _⟩
  case round =>
    obtain ⟨j, hj, rfl, HB⟩ := hrel
    have HT3 := Lib.hid (HT2.out.below HB.out)
    have HL3 := Lib.hid (HL2.out.below HB.out)
    have HZ3 := Lib.hid (HLz.out.below HB.out)
    by_cases hlt : j < zs.length
    · have hsame := Hsame.out j hlt
      by_cases hjq : q ≤ j
      · have hphi : phi q j = (j : Int) + 1 := by unfold phi; rw [if_neg (by omega)]
        rw [hphi] at hsame
        have HS := Lib.hid hsame
        have d1 : decide (q ≤ j) = true := by rw [decide_eq_true_eq]; exact hjq
        have n1 : ¬ j < q := by omega
        have a1 : IntKind.i64.wrap ((j : Int) + 1) = (j : Int) + 1 := by rw [IntKind.wrap_i64]; omega
        obtain ⟨el, hel⟩ : ∃ el, Hid (el = edgeW (wOf Φ zs) zs.length (j : Nat)) := ⟨_, rfl⟩
        have cc : (el != el) = false := by simp
        clear hsame hphi
        go_wp2_with fail
        refine (HEd.out _ _ _ _ HT3.out HZ3.out.1 (j : Nat) (wf_i64 (by omega) (by omega))).mono ?_
        rintro e w6 ⟨rfl, hb6⟩
        rw [← hel.out]
        have HT4 := Lib.hid (HT3.out.below hb6)
        have HL4 := Lib.hid (HL3.out.below hb6)
        have HB4 := Lib.hid (HB.out.trans (hb6.mono HB.out.size))
        clear hb6 HT3 HL3 HZ3 HB
        go_wp2_with fail
        refine (HEd.out _ _ _ _ HT4.out HL4.out.1 ((j : Nat) + 1) (wf_i64 (by omega) (by omega))).mono ?_
        rintro e w7 ⟨rfl, hb7⟩
        rw [HS.out, ← hel.out]
        have HB5 := Lib.hid (HB4.out.trans (hb7.mono HB4.out.size))
        clear hb7 HT4 HL4 HB4
        go_wp2_with fail
        go_roundw
        case rel => exact ⟨j + 1, by omega, by go_num, HB5⟩
        case measure => simp [intOf]; omega
      · have hphi : phi q j = (j : Int) := by unfold phi; rw [if_pos (by omega)]
        rw [hphi] at hsame
        have HS := Lib.hid hsame
        have d1 : decide (q ≤ j) = false := by rw [decide_eq_false_iff_not]; exact hjq
        have n1 : j < q := by omega
        have a1 : IntKind.i64.wrap ((j : Int) + 1) = (j : Int) + 1 := by rw [IntKind.wrap_i64]; omega
        obtain ⟨el, hel⟩ : ∃ el, Hid (el = edgeW (wOf Φ zs) zs.length (j : Nat)) := ⟨_, rfl⟩
        have cc : (el != el) = false := by simp
        clear hsame hphi
        go_wp2_with fail
        refine (HEd.out _ _ _ _ HT3.out HZ3.out.1 (j : Nat) (wf_i64 (by omega) (by omega))).mono ?_
        rintro e w6 ⟨rfl, hb6⟩
        rw [← hel.out]
        have HT4 := Lib.hid (HT3.out.below hb6)
        have HL4 := Lib.hid (HL3.out.below hb6)
        have HB4 := Lib.hid (HB.out.trans (hb6.mono HB.out.size))
        clear hb6 HT3 HL3 HZ3 HB
        go_wp2_with fail
        refine (HEd.out _ _ _ _ HT4.out HL4.out.1 ((j : Nat)) (wf_i64 (by omega) (by omega))).mono ?_
        rintro e w7 ⟨rfl, hb7⟩
        rw [HS.out, ← hel.out]
        have HB5 := Lib.hid (HB4.out.trans (hb7.mono HB4.out.size))
        clear hb7 HT4 HL4 HB4
        go_wp2_with fail
        go_roundw
        case rel => exact ⟨j + 1, by omega, by go_num, HB5⟩
        case measure => simp [intOf]; omega
    · obtain rfl : j = zs.length := by omega
      have HB3 := Lib.hid (HB2.out.trans (HB.out.mono HB2.out.size))
      clear HT3 HL3 HZ3 HB
      go_wp2_with fail
      refine (HA.out _ HB3.out).mono ?_
      rintro e w9 ⟨rfl, hb9⟩
      have HB9 := Lib.hid (HB3.out.trans (hb9.mono HB3.out.size))
      clear hb9
      go_wp2_with fail
      go_ret
      exact ⟨rfl, HB9.out⟩
end Go.Proofs.YtgdpfjipgmfjfaaGreatDoor
