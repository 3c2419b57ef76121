/- decomp: syllable, Full. -/
import Derived.Test.YtpmbebofinlmmaaGreatDoorAcc2W
import Derived.Test.YtpmbebofinlmmaaGreatDoorLod2
namespace Go.Proofs.YtpmbebofinlmmaaGreatDoor
open Go.RowKit
set_option linter.unusedVariables false
set_option linter.unusedSimpArgs false

/-- Where the syllables' parts begin: a variable of the program's. -/
structure Hang (w : World) : Prop where
  c0 : w.cell? ⟨0, 0, none⟩ = some (.int .i64 4352)
  c1 : w.cell? ⟨0, 1, none⟩ = some (.int .i64 4449)
  c2 : w.cell? ⟨0, 2, none⟩ = some (.int .i64 4519)
theorem Hang.below {w w' : World} (h : Hang w) (hb : Below w.heap.size w w') : Hang w' := ⟨cell_later hb h.c0, cell_later hb h.c1, cell_later hb h.c2⟩
theorem own_pop {w : World} {base n g cap : Nat} {e : TypeId} {xs : List Value} {x : Value} (h : w.ownsRow base e 1 (.slice (some ⟨g, 0, none⟩) (n + 1) cap) (n + 1) (xs ++ [x])) : w.ownsRow base e 1 (.slice (some ⟨g, 0, none⟩) n cap) n xs := by
  have hl : xs.length = n := by
    have := h.1
    simp at this
    exact this
  rcases h.2 with ⟨h0, _⟩ | ⟨g', cap', cur, hv, hb, hg, hnc, hcm, hcs, ht⟩
  · cases h0
  · injection hv with e1 e2 e3
    injection e1 with e1
    injection e1 with e1
    subst e1 e3
    refine ⟨by simpa using hl, .inr ⟨g, cap, cur, rfl, hb, hg, by omega, hcm, hcs, ?_⟩⟩
    have := congrArg (List.take n) ht
    rw [List.take_take, List.take_left' hl] at this
    simpa using this
theorem own_fresh2 (w : World) (e : TypeId) (v u : Value) : (w.alloc (.cells #[v, u] e)).ownsRow w.heap.size e 1 (.slice (some ⟨w.heap.size, 0, none⟩) 2 2) 2 [v, u] :=
  ⟨rfl, .inr ⟨w.heap.size, 2, #[v, u], rfl, Nat.le_refl _, row_new _ _, by omega, by unfold maxLen; omega, rfl, rfl⟩⟩
set_option maxRecDepth 100000 in
theorem syllable_walk (n : Nat) (hn : n < 11172) (w : World) (hH : Hang w) : Calls Tryz.prog 86 #[.int .i64 (44032 + (n : Int))] w (CloneSaid (sylOf (44032 + (n : Int))) w) := by
  have q0 := fun o => cell_later (alloc_below w o) hH.c0
  have q1 := fun o => cell_later (alloc_below w o) hH.c1
  have q2 := fun o o' => cell_later (alloc_below (w.alloc o) o') (cell_later (alloc_below w o) hH.c2)
  have a0 : IntKind.i64.wrap (44032 + (n : Int) - 44032) = n := by rw [IntKind.wrap_i64]; omega
  clear hH
  have hb2 := (alloc_below w (Obj.cells #[Value.int IntKind.i64 ((n : Int) / 588), Value.int IntKind.i64 ((n : Int) / 28 % 21), Value.int IntKind.i64 ((n : Int) % 28)] 151)).trans ((alloc_below (w.alloc (Obj.cells #[Value.int IntKind.i64 ((n : Int) / 588), Value.int IntKind.i64 ((n : Int) / 28 % 21), Value.int IntKind.i64 ((n : Int) % 28)] 151)) (Obj.cells #[Value.int IntKind.i64 (4352 + (n : Int) / 588), Value.int IntKind.i64 (4449 + (n : Int) / 28 % 21)] 3)).mono (by rw [size_new]; omega))
  have hown := own_fresh2 (w.alloc (Obj.cells #[Value.int IntKind.i64 ((n : Int) / 588), Value.int IntKind.i64 ((n : Int) / 28 % 21), Value.int IntKind.i64 ((n : Int) % 28)] 151)) 3 (Value.int IntKind.i64 (4352 + (n : Int) / 588)) (Value.int IntKind.i64 (4449 + (n : Int) / 28 % 21))
  replace hown := own_base hown (base' := w.heap.size) (by rw [size_new]; omega)
  rw [size_new] at hown
  have HB := Lib.hid hb2
  have HO := Lib.hid hown
  have e0 : (44032 + (n : Int) - 44032) = n := by omega
  unfold sylOf
  rw [e0]
  clear hb2 hown e0
  by_cases hz : (n : Int) % 28 = 0
  · have d0 : decide (0 < (n : Int) % 28) = false := by simp; omega
    rw [if_pos hz, List.append_nil]
    clear hz
    go_enter Tryz.func86, Tryz.ntmps86
    go_wp2_with fail
    go_ret
    exact ⟨_, rfl, HO.out, HB.out⟩
  · have d0 : decide (0 < (n : Int) % 28) = true := by simp; omega
    rw [if_neg hz]
    clear hz
    go_enter Tryz.func86, Tryz.ntmps86
    go_wp2_with (at_builtin; refine wp_append_new slInt rfl (.tmp 30) (.tmp 36) rfl w.heap.size (.slice (some ⟨w.heap.size + 1, 0, none⟩) 2 2) 2 _ rfl (by exact HO.out) #[.int .i64 (4519 + (n : Int) % 28)] (by rw [size_new, size_new]; rfl) rfl (by simp [Value.oneCell']) (by decide) (by exact HB.out.size) ?_; intro v' w' hown hg; have HB2 := Lib.hid (HB.out.grown hg HB.out.size (fun k hk => (own_lt HO.out k hk).1)); have HO2 := Lib.hid hown; clear hown hg)
    go_ret
    exact ⟨_, rfl, HO2.out, HB2.out⟩
end Go.Proofs.YtpmbebofinlmmaaGreatDoor
