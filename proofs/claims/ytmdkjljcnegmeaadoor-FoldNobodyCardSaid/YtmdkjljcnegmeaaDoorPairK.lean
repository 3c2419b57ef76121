/- Maps whose keys are pairs of ints (fold.pair). -/
import Derived.Test.YtmdkjljcnegmeaaDoorFoldW
import Derived.DeepKeys4
import Derived.Maps.Keyed
namespace Go.Proofs.YtmdkjljcnegmeaaDoor
open Go.RowKit Go.Maps
set_option linter.unusedVariables false

theorem laidOutP : laidOutB Tryd.prog = true := by kernel_rfl
theorem pair_law : Keyed Tryd.prog 69 := Keyed.of_law (deep_law_laid laidOutP (m := 2) (by omega) (of_decide_eq_true (by kernel_rfl)) (by kernel_rfl) (by kernel_rfl))
abbrev PK : Type := { x : Int × Int // (Lit.int .i64 x.1).wf = true ∧ (Lit.int .i64 x.2).wf = true }
def pairV (x : Int × Int) : Value := .agg #[.int .i64 x.1, .int .i64 x.2]
def pairL (x : Int × Int) : Lit := .string (keyBytes [.int .i64 x.1, .int .i64 x.2])
theorem pair_cells : Tryd.prog.cellsOf 69 = 2 := by kernel_rfl
theorem pair_formed (x : Int × Int) : (pairV x).formed Tryd.prog 69 = true := by
  unfold pairV Value.formed
  simp [Tryd.underlying69, pair_cells]
theorem pair_key (x : Int × Int) (h1 : (Lit.int .i64 x.1).wf = true) (h2 : (Lit.int .i64 x.2).wf = true) : keyOf Tryd.prog 69 (pairV x) = some (pairL x) := by
  have hs : 0 < Tryd.prog.types.size := of_decide_eq_true (by kernel_rfl)
  obtain ⟨d, hd⟩ : ∃ d, Tryd.prog.types.size = d + 1 := ⟨Tryd.prog.types.size - 1, by omega⟩
  have hk : Tryd.prog.keyType 69 = true := by kernel_rfl
  have hc : Tryd.prog.cellsOf 69 = 2 := by kernel_rfl
  have hci : Tryd.prog.cellsOf 3 = 1 := by kernel_rfl
  unfold keyOf
  rw [Tryd.underlying69]
  simp only [hk, pair_formed, Bool.and_self, if_true, hd]
  simp [Program.keyLits, Tryd.underlying69, Tryd.underlying3, hc, hci, pairV, Value.cells, pairL, h1, h2]
theorem pairV_inj {x y : Int × Int} (h : pairV x = pairV y) : x = y := by
  unfold pairV at h
  simp at h
  exact Prod.ext h.1 h.2
set_option maxRecDepth 100000 in
theorem pair_inv (v : Value) (l : Lit) (h : keyOf Tryd.prog 69 v = some l) : ∃ x : PK, v = pairV x.1 ∧ l = pairL x.1 := by
  have hs : 0 < Tryd.prog.types.size := of_decide_eq_true (by kernel_rfl)
  obtain ⟨d, hd⟩ : ∃ d, Tryd.prog.types.size = d + 1 := ⟨Tryd.prog.types.size - 1, by omega⟩
  have hk : Tryd.prog.keyType 69 = true := by kernel_rfl
  have hci : Tryd.prog.cellsOf 3 = 1 := by kernel_rfl
  unfold keyOf at h
  rw [Tryd.underlying69] at h
  simp only [hk, Bool.true_and, hd] at h
  by_cases hf : v.formed Tryd.prog 69 = true
  · rw [if_pos hf] at h
    cases v with
    | agg cs =>
      have hsz : cs.size = 2 := by
        unfold Value.formed at hf
        simpa [Tryd.underlying69, pair_cells] using hf
      obtain ⟨c0, c1, rfl⟩ : ∃ c0 c1, cs = #[c0, c1] := by
        refine ⟨cs[0], cs[1], ?_⟩
        apply Array.ext
        · simpa using hsz
        · intro i h1 h2
          rcases (by simp at h2; omega : i = 0 ∨ i = 1) with rfl | rfl <;> rfl
      cases c0 with
      | int q0 a =>
        cases c1 with
        | int q1 b =>
          have h' := h
          simp [Program.keyLits, Tryd.underlying69, Tryd.underlying3, pair_cells, hci, Value.cells] at h'
          by_cases e0 : q0 = IntKind.i64 ∧ (Lit.int IntKind.i64 a).wf = true
          · rw [if_pos e0] at h'
            by_cases e1 : q1 = IntKind.i64 ∧ (Lit.int IntKind.i64 b).wf = true
            · rw [if_pos e1] at h'
              obtain ⟨rfl, w0⟩ := e0
              obtain ⟨rfl, w1⟩ := e1
              refine ⟨⟨(a, b), w0, w1⟩, rfl, ?_⟩
              simp at h'
              rw [← h']
              rfl
            · rw [if_neg e1] at h'
              simp at h'
          · rw [if_neg e0] at h'
            simp at h'
        | _ => simp [Program.keyLits, Tryd.underlying69, Tryd.underlying3, pair_cells, hci, Value.cells] at h
      | _ => simp [Program.keyLits, Tryd.underlying69, Tryd.underlying3, pair_cells, hci, Value.cells] at h
    | _ => simp [Value.formed, Tryd.underlying69] at hf
  · rw [if_neg hf] at h
    cases h
def kPair : KK Tryd.prog 69 PK where
  keyed := pair_law
  ok _ := True
  val x := pairV x.1
  lit x := pairL x.1
  key x _ := pair_key x.1 x.2.1 x.2.2
  inv v l h := by
    obtain ⟨x, h1, h2⟩ := pair_inv v l h
    exact ⟨x, trivial, h1, h2⟩
  inj x y h := by
    have hx := pair_key x.1 x.2.1 x.2.2
    have hy := pair_key y.1 y.2.1 y.2.2
    rw [h] at hx
    exact Subtype.ext (pairV_inj (pair_law.inj hx hy))
end Go.Proofs.YtmdkjljcnegmeaaDoor
