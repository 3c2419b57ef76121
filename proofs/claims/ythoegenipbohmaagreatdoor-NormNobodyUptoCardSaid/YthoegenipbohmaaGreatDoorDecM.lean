/- DecW, Scope, Dec2W, DecB: in one text. -/
import Derived.Test.YthoegenipbohmaaGreatDoorAcc2M
import Derived.Test.YthoegenipbohmaaGreatDoorLod2
import Derived.ScopeJumps
import Derived.WalkMore
import Derived.WalkKit
import Derived.Test.YthoegenipbohmaaGreatDoorCatP
import Derived.Test.YthoegenipbohmaaGreatDoorPur
namespace Go.Proofs.YthoegenipbohmaaGreatDoor
open Go.RowKit
set_option linter.unusedVariables false
set_option linter.unusedSimpArgs false

/-- Where the syllables' parts begin: a variable of the program's. -/
structure Hang (w : World) : Prop where
  c0 : w.cell? ⟨0, 0, none⟩ = some (.int .i64 4352)
  c1 : w.cell? ⟨0, 1, none⟩ = some (.int .i64 4449)
  c2 : w.cell? ⟨0, 2, none⟩ = some (.int .i64 4519)
theorem Hang.below {w w' : World} (h : Hang w) (hb : Below w.heap.size w w') : Hang w' := ⟨cell_later hb h.c0, cell_later hb h.c1, cell_later hb h.c2⟩
theorem own_pop {w : World} {base n g cap : Nat} {e : TypeId} {xs : List Value} {x : Value} (h : w.ownsRow base e 1 (.slice (some ⟨g, 0, none⟩) (n + 1) cap) (n + 1) (xs ++ [x])) : w.ownsRow base e 1 (.slice (some ⟨g, 0, none⟩) n cap) n xs := by
  have hl : xs.length = n := by
    have := h.1
    simp at this
    exact this
  rcases h.2 with ⟨h0, _⟩ | ⟨g', cap', cur, hv, hb, hg, hnc, hcm, hcs, ht⟩
  · cases h0
  · injection hv with e1 e2 e3
    injection e1 with e1
    injection e1 with e1
    subst e1 e3
    refine ⟨by simpa using hl, .inr ⟨g, cap, cur, rfl, hb, hg, by omega, hcm, hcs, ?_⟩⟩
    have := congrArg (List.take n) ht
    rw [List.take_take, List.take_left' hl] at this
    simpa using this
theorem own_fresh2 (w : World) (e : TypeId) (v u : Value) : (w.alloc (.cells #[v, u] e)).ownsRow w.heap.size e 1 (.slice (some ⟨w.heap.size, 0, none⟩) 2 2) 2 [v, u] :=
  ⟨rfl, .inr ⟨w.heap.size, 2, #[v, u], rfl, Nat.le_refl _, row_new _ _, by omega, by unfold maxLen; omega, rfl, rfl⟩⟩
set_option maxRecDepth 100000 in
theorem syllable_walk (n : Nat) (hn : n < 11172) (w : World) (hH : Hang w) : Calls Tryz.prog 75 #[.int .i64 (44032 + (n : Int))] w (CloneSaid (sylOf (44032 + (n : Int))) w) := by
  have q0 := fun o => cell_later (alloc_below w o) hH.c0
  have q1 := fun o => cell_later (alloc_below w o) hH.c1
  have q2 := fun o o' => cell_later (alloc_below (w.alloc o) o') (cell_later (alloc_below w o) hH.c2)
  have a0 : IntKind.i64.wrap (44032 + (n : Int) - 44032) = n := by rw [IntKind.wrap_i64]; omega
  clear hH
  have hb2 := (alloc_below w (Obj.cells #[Value.int IntKind.i64 ((n : Int) / 588), Value.int IntKind.i64 ((n : Int) / 28 % 21), Value.int IntKind.i64 ((n : Int) % 28)] 143)).trans ((alloc_below (w.alloc (Obj.cells #[Value.int IntKind.i64 ((n : Int) / 588), Value.int IntKind.i64 ((n : Int) / 28 % 21), Value.int IntKind.i64 ((n : Int) % 28)] 143)) (Obj.cells #[Value.int IntKind.i64 (4352 + (n : Int) / 588), Value.int IntKind.i64 (4449 + (n : Int) / 28 % 21)] 3)).mono (by rw [size_new]; omega))
  have hown := own_fresh2 (w.alloc (Obj.cells #[Value.int IntKind.i64 ((n : Int) / 588), Value.int IntKind.i64 ((n : Int) / 28 % 21), Value.int IntKind.i64 ((n : Int) % 28)] 143)) 3 (Value.int IntKind.i64 (4352 + (n : Int) / 588)) (Value.int IntKind.i64 (4449 + (n : Int) / 28 % 21))
  replace hown := own_base hown (base' := w.heap.size) (by rw [size_new]; omega)
  rw [size_new] at hown
  have HB := Lib.hid hb2
  have HO := Lib.hid hown
  have e0 : (44032 + (n : Int) - 44032) = n := by omega
  unfold sylOf
  rw [e0]
  clear hb2 hown e0
  by_cases hz : (n : Int) % 28 = 0
  · have d0 : decide (0 < (n : Int) % 28) = false := by simp; omega
    rw [if_pos hz, List.append_nil]
    clear hz
    go_enter Tryz.func75, Tryz.ntmps75
    go_wp2_with fail
    go_ret
    exact ⟨_, rfl, HO.out, HB.out⟩
  · have d0 : decide (0 < (n : Int) % 28) = true := by simp; omega
    rw [if_neg hz]
    clear hz
    go_enter Tryz.func75, Tryz.ntmps75
    go_wp2_with (at_builtin; refine wp_append_new slInt rfl (.tmp 30) (.tmp 36) rfl w.heap.size (.slice (some ⟨w.heap.size + 1, 0, none⟩) 2 2) 2 _ rfl (by exact HO.out) #[.int .i64 (4519 + (n : Int) % 28)] (by rw [size_new, size_new]; rfl) rfl (by simp [Value.oneCell']) (by decide) (by exact HB.out.size) ?_; intro v' w' hown hg; have HB2 := Lib.hid (HB.out.grown hg HB.out.size (fun k hk => (own_lt HO.out k hk).1)); have HO2 := Lib.hid hown; clear hown hg)
    go_ret
    exact ⟨_, rfl, HO2.out, HB2.out⟩
end Go.Proofs.YthoegenipbohmaaGreatDoor

namespace Go.Proofs.YthoegenipbohmaaGreatDoor
open Go
set_option linter.unusedVariables false
theorem least_of (p : Nat → Prop) : ∀ n, p n → ∃ k, p k ∧ ∀ m, p m → k ≤ m := by
  intro n
  induction n using Nat.strongRecOn with
  | _ n ih =>
    intro h
    by_cases hex : ∃ m, m < n ∧ p m
    · obtain ⟨m, hm, hp⟩ := hex
      exact ih m hm hp
    · exact ⟨n, h, fun m hm => Nat.le_of_not_lt fun hlt => hex ⟨m, hlt, hm⟩⟩
noncomputable def leastOf (p : Nat → Prop) : Nat := open Classical in if h : ∃ n, p n then (least_of p h.choose h.choose_spec).choose else 0
theorem leastOf_spec {p : Nat → Prop} {n : Nat} (h : p n) : p (leastOf p) ∧ leastOf p ≤ n := by
  unfold leastOf
  have hex : ∃ n, p n := ⟨n, h⟩
  rw [dif_pos hex]
  have := (least_of p hex.choose hex.choose_spec).choose_spec
  exact ⟨this.1, this.2 n h⟩
theorem wp_scope_ghost {P : Program} {a : Act} {w : World} {Q : Exit → Act → World → Prop} {c rest : Code} (l : Nat) (J : Nat → Act → World → Prop) (hf : findLabel c l = some rest)
    (pass : ∀ n a w, J n a w → rest.wp P (Exit.jump l (fun a' w' => ∃ n', n' < n ∧ J n' a' w') Q) a w)
    (first : (∀ n a w, J n a w → rest.wp P (Exit.jump l (fun a' w' => ∃ n, J n a' w') Q) a w) → c.wp P (Exit.jump l (fun a' w' => ∃ n, J n a' w') Q) a w) : (Code.scope c).wp P Q a w := by
  refine wp_scope_jumps l (fun a w => ∃ n, J n a w) (fun a w => leastOf fun n => J n a w) hf (first fun n a w h => ?_) ?_
  · refine wp_mono (pass n a w h) ?_
    intro e a' w' hq
    cases e with
    | goto l' => exact ⟨hq.1, hq.2.choose, hq.2.choose_spec.2⟩
    | _ => exact hq
  · rintro a w ⟨n, h⟩
    have hs := (leastOf_spec (p := fun n => J n a w) h).1
    refine wp_mono (pass _ a w hs) ?_
    intro e a' w' hq
    cases e with
    | goto l' =>
      obtain ⟨h1, n', hlt, hJ⟩ := hq
      exact ⟨h1, ⟨n', hJ⟩, Nat.lt_of_le_of_lt (leastOf_spec (p := fun n => J n a' w') hJ).2 hlt⟩
    | _ => exact hq
/-- The label's own place is a step that does nothing. -/
theorem wp_scope_label {P : Program} {a : Act} {w : World} {Q : Exit → Act → World → Prop} {c X : Code} (l : Nat) (J : Nat → Act → World → Prop) (hf : findLabel c l = some (Code.seq Code.skip X))
    (pass : ∀ n a w, J n a w → X.wp P (Exit.jump l (fun a' w' => ∃ n', n' < n ∧ J n' a' w') Q) a w)
    (first : (∀ n a w, J n a w → X.wp P (Exit.jump l (fun a' w' => ∃ n, J n a' w') Q) a w) → c.wp P (Exit.jump l (fun a' w' => ∃ n, J n a' w') Q) a w) : (Code.scope c).wp P Q a w := by
  refine wp_scope_ghost l J hf (fun n a w h => wp_seq (wp_skip (pass n a w h))) (fun _ => first fun n a w h => wp_mono (pass n a w h) ?_)
  intro e a' w' hq
  cases e with
  | goto l' => exact ⟨hq.1, hq.2.choose, hq.2.choose_spec.2⟩
  | _ => exact hq
end Go.Proofs.YthoegenipbohmaaGreatDoor

namespace Go.Proofs.YthoegenipbohmaaGreatDoor
open Go.RowKit
set_option linter.unusedVariables false
set_option linter.unusedSimpArgs false

/-- So many parts at most has each record. -/
def shortB (rs : List Rec) : Bool := rs.all fun x => decide ((Sp.pts (fld0 x)).length ≤ 20)
theorem sum_map_le {α : Type} (f : α → Nat) (c : Nat) (h : ∀ x, f x ≤ c) : ∀ l : List α, (l.map f).sum ≤ l.length * c
  | [] => by simp
  | x :: l => by
    have := sum_map_le f c h l
    have := h x
    simp only [List.map_cons, List.sum_cons, List.length_cons, Nat.add_mul]
    omega
def dcap : Nat → Nat
  | 0 => 1
  | k + 1 => 1 + 20 * dcap k
theorem dcap_pos : ∀ k, 1 ≤ dcap k
  | 0 => Nat.le_refl _
  | k + 1 => by unfold dcap; omega
theorem dcost_le {rs : List Rec} (h : shortB rs = true) : ∀ (k : Nat) (r : Int), dcost (partsOf rs) k r ≤ dcap k
  | 0, r => by unfold dcost dcap; exact Nat.le_refl _
  | k + 1, r => by
    rw [dcost_succ]
    split
    · exact dcap_pos _
    · split
      · rename_i n l hP
        have h1 := sum_map_le (fun m : Nat => dcost (partsOf rs) k m) (dcap k) (fun m => dcost_le h k m) (n :: l)
        have h2 : (n :: l).length ≤ 20 := by
          obtain ⟨x, hx, _, _, e⟩ := parts_rec hP
          rw [e]
          have := List.all_eq_true.1 h x hx
          simpa using this
        have h3 := Nat.mul_le_mul_right (dcap k) h2
        show 1 + _ ≤ 1 + 20 * dcap k
        exact Nat.add_le_add_left (Nat.le_trans h1 h3) 1
      · exact dcap_pos _
theorem dsteps_le {rs : List Rec} (h : shortB rs = true) (r : Int) : dsteps (partsOf rs) r ≤ 4000000 := Nat.le_trans (dcost_le h 5 r) (by decide)

structure FullSt (w0 w : World) (v5 v6 : Value) (out stk : List Int) : Prop where
  o : IntsAt w w0.heap.size v5 out
  s : IntsAt w w0.heap.size v6 stk
  ne : v5.ownBlock = none ∨ v5.ownBlock ≠ v6.ownBlock
  b : Below w0.heap.size w0 w
section
variable {w0 w w' : World} {v5 v6 v' : Value} {out stk l : List Int}
theorem FullSt.below (h : FullSt w0 w v5 v6 out stk) (hb : Below w.heap.size w w') : FullSt w0 w' v5 v6 out stk := ⟨own_below h.o hb, own_below h.s hb, h.ne, h.b.trans (hb.mono h.b.size)⟩
theorem FullSt.ne' (h : FullSt w0 w v5 v6 out stk) : v6.ownBlock = none ∨ v6.ownBlock ≠ v5.ownBlock := by
  rcases h.ne with h1 | h1
  · rw [h1]
    cases v6.ownBlock with
    | none => exact .inl rfl
    | some k => exact .inr (by simp)
  · exact .inr (Ne.symm h1)
theorem FullSt.addOut (h : FullSt w0 w v5 v6 out stk) (hown : w'.ownsRow w0.heap.size 3 1 v' (out.length + l.length) (intz out ++ intz l)) (hg : w.grownBy w' v5.ownBlock) (hb : v'.ownBlock = v5.ownBlock ∨ v'.ownBlock = some w.heap.size) : FullSt w0 w' v' v6 (out ++ l) stk := by
  refine ⟨?_, h.s.kept hg h.ne', ?_, h.b.grown hg h.b.size (fun k hk => (own_lt h.o k hk).1)⟩
  · unfold IntsAt intz
    rw [List.map_append, List.length_append]
    exact hown
  · rcases hb with e | e
    · rw [e]; exact h.ne
    · right
      rw [e]
      intro e2
      have := (own_lt h.s _ e2.symm).2
      omega
theorem FullSt.addStk (h : FullSt w0 w v5 v6 out stk) (hown : w'.ownsRow w0.heap.size 3 1 v' (stk.length + l.length) (intz stk ++ intz l)) (hg : w.grownBy w' v6.ownBlock) (hb : v'.ownBlock = v6.ownBlock ∨ v'.ownBlock = some w.heap.size) : FullSt w0 w' v5 v' out (stk ++ l) := by
  refine ⟨h.o.kept hg h.ne, ?_, ?_, h.b.grown hg h.b.size (fun k hk => (own_lt h.s k hk).1)⟩
  · unfold IntsAt intz
    rw [List.map_append, List.length_append]
    exact hown
  · rcases hb with e | e
    · rw [e]; exact h.ne
    · cases h5 : v5.ownBlock with
      | none => exact .inl rfl
      | some k =>
        right
        rw [e]
        intro e2
        have := (own_lt h.o k h5).2
        injection e2 with e2
        omega
theorem FullSt.other {g : Nat} (h : FullSt w0 w v5 v6 out stk) (hg : w.grownBy w' (some g)) (h5 : v5.ownBlock ≠ some g) (h6 : v6.ownBlock ≠ some g) (hb : w0.heap.size ≤ g) : FullSt w0 w' v5 v6 out stk :=
  ⟨h.o.kept hg (.inr h5), h.s.kept hg (.inr h6), h.ne, h.b.grown hg h.b.size (fun k hk => by cases hk; exact hb)⟩
theorem FullSt.pop {g cap : Nat} {x : Int} (h : FullSt w0 w v5 (.slice (some ⟨g, 0, none⟩) (stk.length + 1) cap) out (stk ++ [x])) : FullSt w0 w v5 (.slice (some ⟨g, 0, none⟩) stk.length cap) out stk := by
  refine ⟨h.o, ?_, h.ne, h.b⟩
  have := h.s
  unfold IntsAt intz at this
  rw [List.map_append, List.length_append] at this
  exact own_pop this
end
theorem len_le_sum (P : Int → Option (List Nat)) : ∀ l : List Int, l.length ≤ (l.map (dsteps P)).sum
  | [] => by simp
  | x :: l => by
    have := len_le_sum P l
    have h := dcost_pos P 5 x
    simp only [List.map_cons, List.sum_cons, List.length_cons]
    unfold dsteps at *
    omega
theorem partz_wf {Φ : Files} (x : Int) : ∀ y ∈ partz Φ x, (Lit.int .i64 y).wf = true := by
  intro y hy
  unfold partz at hy
  obtain ⟨n, hn, rfl⟩ := List.mem_map.1 hy
  have : n ≤ 1114111 := by
    cases hP : partsOf Φ.dec x with
    | none => rw [hP] at hn; simp at hn
    | some l =>
      rw [hP] at hn
      obtain ⟨z, _, _, _, rfl⟩ := parts_rec hP
      exact pts_le _ n hn
  exact wf_i64 (by omega) (by omega)
/-- What one code point comes to, by its parts. -/
theorem dall_nil {Φ : Files} (h0 : lev Φ.dec 4 = 0) {x : Int} (hs : isSyl x = false) (hp : partz Φ x = []) : dall (partsOf Φ.dec) x = [x] ∧ dsteps (partsOf Φ.dec) x = 1 := by
  obtain ⟨h1, h2⟩ := dall_eq h0 x
  rw [h1, h2, hs]
  unfold partz at hp
  cases hP : partsOf Φ.dec x with
  | none => simp
  | some l =>
    rw [hP] at hp
    have : l = [] := by simpa using hp
    subst this
    simp
theorem dall_cons {Φ : Files} (h0 : lev Φ.dec 4 = 0) {x : Int} (hs : isSyl x = false) (hp : partz Φ x ≠ []) : dall (partsOf Φ.dec) x = (partz Φ x).flatMap (dall (partsOf Φ.dec)) ∧ dsteps (partsOf Φ.dec) x = 1 + ((partz Φ x).map (dsteps (partsOf Φ.dec))).sum := by
  obtain ⟨h1, h2⟩ := dall_eq h0 x
  rw [h1, h2, hs]
  unfold partz at hp ⊢
  cases hP : partsOf Φ.dec x with
  | none => rw [hP] at hp; simp at hp
  | some l =>
    cases l with
    | nil => rw [hP] at hp; simp at hp
    | cons n l =>
      simp only [Bool.false_eq_true, if_false, Option.getD_some, List.flatMap_def, List.map_map]
      exact ⟨rfl, rfl⟩
theorem dall_syl {Φ : Files} (h0 : lev Φ.dec 4 = 0) {x : Int} (hs : isSyl x = true) : dall (partsOf Φ.dec) x = sylOf x ∧ dsteps (partsOf Φ.dec) x = 1 := by
  obtain ⟨h1, h2⟩ := dall_eq h0 x
  rw [h1, h2, hs]
  simp
theorem sylOf_len (r : Int) : (sylOf r).length ≤ 3 ∧ 2 ≤ (sylOf r).length := by
  unfold sylOf
  split <;> simp
def DecInv (Φ : Files) (r : Int) (w : World) (n : Nat) (wr : World) (v5 v6 : Value) : Prop :=
  ∃ out stk, FullSt w wr v5 v6 out stk ∧ dall (partsOf Φ.dec) r = out ++ stk.reverse.flatMap (dall (partsOf Φ.dec)) ∧ (∀ x ∈ stk, (Lit.int .i64 x).wf = true) ∧ n = (stk.map (dsteps (partsOf Φ.dec))).sum ∧ out.length + 3 * n ≤ 3 * dsteps (partsOf Φ.dec) r
def DecJ (Φ : Files) (m : Nat) (r : Int) (w : World) (n : Nat) (a' : Act) (w' : World) : Prop :=
  ∃ u4 u7 u8 u9 u10 u11 u12 u13 u14 u15 u16 u17 u18 u19 u20 u21 u22 u23 u24 u25 u26 u27 u28 u29 u30 u31 u32 u33 u34 u35 u36 u37 u38 u39 u40 u41 u42 u43 u44 u45 u46 u47 u48 u49 u50 u51 u52 u53 v5 v6, a' = { tmps := #[.pointer (some ⟨m + 3, 0, none⟩), .int .i64 r, undef, undef, u4, v5, v6, u7, u8, u9, u10, u11, u12, u13, u14, u15, u16, u17, u18, u19, u20, u21, u22, u23, u24, u25, u26, u27, u28, u29, u30, u31, u32, u33, u34, u35, u36, u37, u38, u39, u40, u41, u42, u43, u44, u45, u46, u47, u48, u49, u50, u51, u52, u53], defers := [] } ∧ DecInv Φ r w n w' v5 v6
set_option maxRecDepth 100000 in
set_option maxHeartbeats 800000 in
theorem dec_walk {w : World} {m : Nat} {Φ : Files} (h : TabAt w m Φ) (hok : FilesOk Φ) (hend0 : lev Φ.dec 4 = 0) (hsh : shortB Φ.dec = true) (hcat : txOf Φ.cat 0 [67, 110] ≠ []) (hH : Hang w) (r : Int) (hr : (Lit.int .i64 r).wf = true) :
    Calls Tryz.prog 43 #[.pointer (some ⟨m + 3, 0, none⟩), .int .i64 r] w (CloneSaid (dall (partsOf Φ.dec) r) w) := by
  have hcw := category_walk h hok 0
  have hcs : (⟨(txOf Φ.cat 0 [67, 110]).toArray⟩ : ByteArray).toList.isEmpty = false := by
    rw [show (⟨(txOf Φ.cat 0 [67, 110]).toArray⟩ : ByteArray).toList = txOf Φ.cat 0 [67, 110] from toBl _]
    exact List.isEmpty_eq_false_iff.2 hcat
  generalize (⟨(txOf Φ.cat 0 [67, 110]).toArray⟩ : ByteArray) = cs at *
  have HCW := Lib.hid hcw
  have HT := Lib.hid h
  have HH := Lib.hid hH
  have Hok := Lib.hid hok
  clear hcw h hH hok hcat
  go_enter Tryz.func43, Tryz.ntmps43
  go_wp2_with fail
  refine wp_scope_label 0 (DecJ Φ m r w) rfl ?_ ?_
  · rintro n a w1 ⟨u4, u7, u8, u9, u10, u11, u12, u13, u14, u15, u16, u17, u18, u19, u20, u21, u22, u23, u24, u25, u26, u27, u28, u29, u30, u31, u32, u33, u34, u35, u36, u37, u38, u39, u40, u41, u42, u43, u44, u45, u46, u47, u48, u49, u50, u51, u52, u53, v5, v6, rfl, hI⟩
    obtain ⟨out, stk, hF, hd, hw, hn, ho⟩ := hI
    have hst := dsteps_le hsh r
    have hls := len_le_sum (partsOf Φ.dec) stk
    rcases List.eq_nil_or_concat stk with rfl | ⟨stk, x, rfl⟩
    · obtain ⟨A6, c6, rfl⟩ := own_slice hF.s
      have hfin : CloneSaid (dall (partsOf Φ.dec) r) w (.returned v5) w1 := ⟨v5, rfl, by rw [hd]; simpa using hF.o, hF.b⟩
      have Hfin := Lib.hid hfin
      rw [List.length_nil]
      clear hF hd hw hn ho hls hfin
      go_wp2_with fail
      simp only [Exit.jump]
      go_ret
      exact Hfin.out
    · simp only [List.concat_eq_append] at *
      have hl : (stk ++ [x]).length = stk.length + 1 := by simp
      have hsum : ((stk ++ [x]).map (dsteps (partsOf Φ.dec))).sum = (stk.map (dsteps (partsOf Φ.dec))).sum + dsteps (partsOf Φ.dec) x := by simp
      have hrev : (stk ++ [x]).reverse = x :: stk.reverse := by simp
      rw [hsum] at hn hls
      rw [hrev, List.flatMap_cons] at hd
      have hxw := hw x (by simp)
      have hw' : ∀ y ∈ stk, (Lit.int .i64 y).wf = true := fun y hy => hw y (by simp [hy])
      obtain ⟨g, cap, rfl, hg1, hg2, hg3, hg4⟩ := own_form hF.s (by rw [hl]; omega)
      have cx : w1.cell? ⟨g, stk.length, none⟩ = some (.int .i64 x) := own_cell hF.s _ _ (by unfold intz; simp)
      rw [hl] at hF hg3 hls ⊢
      have hls2 := len_le_sum (partsOf Φ.dec) stk
      have HF := Lib.hid hF.pop
      have Hd := Lib.hid hd
      have Hw := Lib.hid hw'
      have Hn := Lib.hid hn
      have Hh := Lib.hid (HH.out.below (hF.b))
      unfold maxLen at hg4
      have b1 : IntKind.i64.wrap (((stk.length : Nat) : Int) + 1 - 1) = stk.length := by rw [IntKind.wrap_i64]; omega
      clear hF hd hw hw' hl hsum hrev hn
      cases hsy : isSyl x with
      | true =>
        obtain ⟨e1, e2⟩ := dall_syl hend0 hsy
        have hx2 : 44032 ≤ x ∧ x ≤ 55203 := by unfold isSyl at hsy; simpa using hsy
        obtain ⟨q, hq⟩ : ∃ q : Nat, x = 44032 + (q : Int) := ⟨(x - 44032).toNat, by omega⟩
        have d1 : decide (x ≥ 44032) = true := by simp; omega
        have d2 : decide (x ≤ 55203) = true := by simp; omega
        have E1 := Lib.hid e1
        have E2 := Lib.hid e2
        clear hsy e1 e2 hls
        go_wp2_with fail
        refine (syllable_walk q (by omega) w1 Hh.out).mono ?_
        rintro e w2 ⟨v2, rfl, hv2, hb2⟩
        rw [← hq] at hv2
        have hsl := sylOf_len x
        obtain ⟨g2, k2, rfl, _, _, _, _⟩ := own_form hv2 (by omega)
        have HF2 := Lib.hid (HF.out.below hb2)
        have HV2 := Lib.hid hv2
        have hob : (out.length + (sylOf x).length) * 8 ≤ 140737488355328 := by have := Hn.out; rw [E2.out] at this; omega
        generalize hlz : sylOf x = lz at *
        clear hv2 hb2 HF Hh cx d1 d2
        go_wp2_with (at_builtin; refine wp_append w2 slInt rfl (.tmp 35) (.tmp 37) rfl w.heap.size v5 _ _ rfl (by exact HF2.out.o) ⟨g2, 0, none⟩ _ k2 (intz lz) rfl (by simp [intz]) (fun j u hj => by rw [add_plain, Nat.zero_add]; exact own_cell HV2.out j u hj) (by intro u hu; unfold intz at hu; obtain ⟨_, _, rfl⟩ := List.mem_map.1 hu; rfl) (by exact hob) (by exact HF2.out.b.size) ?_; intro v' w3 hown hg _ hat; have HF3 := Lib.hid (HF2.out.addOut hown hg hat); clear hown hg hat)
        go_step3
        simp only [Exit.then, Exit.jump]
        refine ⟨rfl, (stk.map (dsteps (partsOf Φ.dec))).sum, by have := Hn.out; rw [E2.out] at this; omega, ?_⟩
        unfold DecJ
        (repeat apply Exists.intro)
        refine ⟨rfl, out ++ lz, stk, HF3.out, ?_, Hw.out, rfl, ?_⟩
        · rw [Hd.out, E1.out, List.append_assoc]
        · have := Hn.out; rw [E2.out] at this; rw [List.length_append]; omega
      | false =>
        have hx2 : ¬ (44032 ≤ x ∧ x ≤ 55203) := by unfold isSyl at hsy; simpa using hsy
        have Hsy := Lib.hid hsy
        have HPW := Lib.hid (fun (W : World) (hb : Below w.heap.size w W) => parts_walk (HT.out.below hb) Hok.out x hxw)
        have hcase : (decide (x ≥ 44032) = true ∧ decide (x ≤ 55203) = false) ∨ decide (x ≥ 44032) = false := by
          by_cases h1 : 44032 ≤ x
          · left; constructor <;> simp <;> omega
          · right; simp; omega
        clear hsy hls hx2
        rcases hcase with ⟨d1, d2⟩ | d1
        all_goals
          go_wp2_with fail
          refine (HPW.out w1 HF.out.b).mono ?_
          rintro e w2 ⟨v8, rfl, hv8, hb2⟩
          have HF2 := Lib.hid (HF.out.below hb2)
          have Hs1 := Lib.hid (own_lt HF.out.s _ rfl).2
          have Hs5 := Lib.hid (fun k (hk : v5.ownBlock = some k) => (own_lt HF.out.o k hk).2)
          have hwb : w.heap.size ≤ w1.heap.size := HF.out.b.size
          by_cases hpz : partz Φ x = []
          · obtain ⟨e1, e2⟩ := dall_nil hend0 Hsy.out hpz
            rw [hpz] at hv8
            obtain ⟨A8, k8, rfl⟩ := own_slice hv8
            have E1 := Lib.hid e1
            have E2 := Lib.hid e2
            have HF2a := Lib.hid (HF2.out.below (alloc_below w2 (Obj.cells #[Value.int IntKind.i64 x] 3)))
            have hob : (out.length + 1) * 8 ≤ 140737488355328 := by have := Hn.out; rw [E2.out] at this; omega
            rw [List.length_nil]
            clear hv8 hb2 HF Hh cx e1 e2 hpz HF2
            go_wp2_with (at_builtin; refine wp_append _ slInt rfl (.tmp 45) (.tmp 47) rfl w.heap.size v5 _ _ rfl (by exact HF2a.out.o) ⟨w2.heap.size, 0, none⟩ 1 1 (intz [x]) rfl rfl (fun j u hj => by rw [add_plain, Nat.zero_add, (cells_of_row (row_new w2 _)).1 j]; simpa [intz] using hj) (by intro u hu; unfold intz at hu; obtain ⟨_, _, rfl⟩ := List.mem_map.1 hu; rfl) (by exact hob) (by exact HF2a.out.b.size) ?_; intro v' w3 hown hg _ hat; have HF3 := Lib.hid (HF2a.out.addOut (l := [x]) hown hg hat); clear hown hg hat)
            go_step3
            simp only [Exit.then, Exit.jump]
            refine ⟨rfl, (stk.map (dsteps (partsOf Φ.dec))).sum, by have := Hn.out; rw [E2.out] at this; omega, ?_⟩
            unfold DecJ
            (repeat apply Exists.intro)
            refine ⟨rfl, out ++ [x], stk, HF3.out, ?_, Hw.out, rfl, ?_⟩
            · rw [Hd.out, E1.out, List.append_assoc]
            · have := Hn.out; rw [E2.out] at this; rw [List.length_append, List.length_singleton]; omega
          · obtain ⟨e1, e2⟩ := dall_cons hend0 Hsy.out hpz
            have hpos : 0 < (partz Φ x).length := List.length_pos_iff.2 hpz
            have hpl := len_le_sum (partsOf Φ.dec) (partz Φ x)
            have hpwf := partz_wf (Φ := Φ) x
            generalize partz Φ x = lp at *
            obtain ⟨g8, k8, rfl, hg81, hg82, hg83, hg84⟩ := own_form hv8 hpos
            have d3 : (((lp.length : Nat) : Int) == 0) = false := by rw [beq_eq_false_iff_ne]; omega
            have E1 := Lib.hid e1
            have E2 := Lib.hid e2
            have HPL := Lib.hid hpl
            have Hpwf := Lib.hid hpwf
            have HRV := Lib.hid (reverseI_walk hv8)
            have hob : (stk.length + lp.length) * 8 ≤ 140737488355328 := by have := Hn.out; rw [E2.out] at this; omega
            clear hv8 hb2 HF Hh cx e1 e2 hpz hpl hpwf
            go_wp2_with fail
            refine HRV.out.mono ?_
            rintro e w3 ⟨rfl, hv9, hg9⟩
            have HF3 := Lib.hid (HF2.out.other hg9 (fun e => by have := Hs5.out _ e; omega) (by
              have h1 := Hs1.out
              intro e
              have e2 : g = g8 := by simpa [Value.ownBlock] using e
              omega) (by omega))
            have HV9 := Lib.hid (show w3.ownsRow w1.heap.size 3 1 (.slice (some ⟨g8, 0, none⟩) lp.length k8) lp.length (intz lp.reverse) by unfold IntsAt at hv9; rwa [List.length_reverse] at hv9)
            clear hv9 hg9 HRV HF2 Hs1 Hs5
            go_wp2_with (at_builtin; refine wp_append w3 slInt rfl (.tmp 51) (.tmp 52) rfl w.heap.size (.slice (some ⟨g, 0, none⟩) stk.length cap) _ _ rfl (by exact HF3.out.s) ⟨g8, 0, none⟩ lp.length k8 (intz lp.reverse) rfl (by simp [intz]) (fun j u hj => by rw [add_plain, Nat.zero_add]; exact own_cell HV9.out j u hj) (by intro u hu; unfold intz at hu; obtain ⟨_, _, rfl⟩ := List.mem_map.1 hu; rfl) (by exact hob) (by exact HF3.out.b.size) ?_; intro v' w4 hown hg _ hat; have HF4 := Lib.hid (HF3.out.addStk (l := lp.reverse) (by rw [List.length_reverse]; exact hown) hg hat); clear hown hg hat)
            go_step3
            show Exit.jump _ _ _ (Exit.goto 0) _ _
            simp only [Exit.jump]
            refine ⟨trivial, ((stk ++ lp.reverse).map (dsteps (partsOf Φ.dec))).sum, ?_, ?_⟩
            · have := Hn.out
              rw [E2.out] at this
              simp only [List.map_append, List.sum_append, List.map_reverse, List.sum_reverse]
              omega
            · unfold DecJ
              (repeat apply Exists.intro)
              refine ⟨rfl, out, stk ++ lp.reverse, HF4.out, ?_, ?_, rfl, ?_⟩
              · rw [Hd.out, E1.out, List.reverse_append, List.reverse_reverse, List.flatMap_append]
              · intro y hy
                rcases List.mem_append.1 hy with hy | hy
                · exact Hw.out y hy
                · exact Hpwf.out y (List.mem_reverse.1 hy)
              · have := Hn.out
                rw [E2.out] at this
                simp only [List.map_append, List.sum_append, List.map_reverse, List.sum_reverse]
                omega
  · intro hp
    have Hp := Lib.hid hp
    clear hp
    go_wp2_with fail
    refine HCW.out.mono ?_
    rintro e w1 ⟨rfl, hb1⟩
    have HB1 := Lib.hid hb1
    clear hb1 HCW
    go_wp2_with fail
    go_step3
    simp only [Exit.then]
    refine ‹∀ (a : Act) (w : World), Code.wp _ _ _ a w → _› _ _ ?_
    refine Hp.out (dsteps (partsOf Φ.dec) r) _ _ ?_
    have hrw : ∀ x ∈ [r], (Lit.int .i64 x).wf = true := by
      intro x hx
      obtain rfl : x = r := by simpa using hx
      exact hr
    unfold DecJ
    (repeat apply Exists.intro)
    refine ⟨rfl, [], [r], ⟨World.ownsRow_nil _ _ _ _, own_base (own_fresh1 w1 3 (Value.int .i64 r)) HB1.out.size, .inl rfl, HB1.out.trans ((alloc_below _ _).mono HB1.out.size)⟩, by simp, hrw, by simp, by simp⟩
end Go.Proofs.YthoegenipbohmaaGreatDoor

namespace Go.Proofs.YthoegenipbohmaaGreatDoor
open Go.RowKit
set_option linter.unusedVariables false
set_option linter.unusedSimpArgs false

theorem dec_short : shortB (recsOf Tryz.f55) = true := by kernel_rfl
set_option maxRecDepth 100000 in
theorem files_short : shortB files.dec = true := dec_short
theorem endB_lev {rs : List Rec} (h : endB rs = true) : lev rs 4 = 0 := by
  unfold endB at h
  simp only [Bool.and_eq_true] at h
  exact Nat.eq_of_beq_eq_true h.1
theorem files_lev : lev files.dec 4 = 0 := endB_lev dec_end
theorem decf_walk {w : World} {m : Nat} (h : TabAt w m files) (hH : Hang w) (r : Int) (hr : (Lit.int .i64 r).wf = true) :
    Calls Tryz.prog 43 #[.pointer (some ⟨m + 3, 0, none⟩), .int .i64 r] w (CloneSaid (dall (partsOf files.dec) r) w) :=
  dec_walk h files_ok files_lev files_short (txOf_ne files_cat 0 (by decide)) hH r hr
end Go.Proofs.YthoegenipbohmaaGreatDoor
