/- Categories are never empty. -/
import Derived.Test.YtchkckfadennhaaGreatDoorAccM
import Derived.Test.YtchkckfadennhaaGreatDoorLod2
namespace Go.Proofs.YtchkckfadennhaaGreatDoor
open Go.RowKit
set_option linter.unusedVariables false
set_option linter.unusedSimpArgs false

def nonemptyB (f : Func) : Bool := (recsOf f).all fun r => !(fld0 r).isEmpty
theorem cat_nonempty : nonemptyB Tryz.f18 = true := by kernel_rfl
theorem valsOf_mem (rs : List Rec) : ∀ v ∈ valsOf rs, ∃ r ∈ rs, v = fld0 r := by
  have h : ∀ (rs all : List Rec) (vs : List Sp.Str), (∀ r ∈ rs, r ∈ all) → (∀ v ∈ vs, ∃ r ∈ all, v = fld0 r) → ∀ v ∈ rs.foldl (fun vs r => addVal vs (fld0 r)) vs, ∃ r ∈ all, v = fld0 r := by
    intro rs all
    induction rs with
    | nil => intro vs _ h; exact h
    | cons r rs ih =>
      intro vs hm h
      refine ih _ (fun x hx => hm x (List.mem_cons_of_mem _ hx)) ?_
      intro v hv0
      have hv : v ∈ addVal vs (fld0 r) := hv0
      unfold addVal at hv
      split at hv
      · exact h v hv
      · rcases List.mem_append.1 hv with hv | hv
        · exact h v hv
        · exact ⟨r, hm r List.mem_cons_self, by simpa using hv⟩
  exact h rs rs [] (fun _ h => h) (fun v hv => by cases hv)
theorem txOf_ne {rs : List Rec} (h : ∀ r ∈ rs, fld0 r ≠ []) (r : Int) {other : Sp.Str} (ho : other ≠ []) : txOf rs r other ≠ [] := by
  unfold txOf
  cases hg : trieGet (valsOf rs) (entCur (entsOf rs).reverse) r with
  | none => exact ho
  | some v =>
    unfold trieGet at hg
    split at hg
    · obtain ⟨x, hx, rfl⟩ := valsOf_mem rs v (List.mem_of_getElem? hg)
      exact h x hx
    · cases hg
set_option maxRecDepth 100000 in
theorem files_cat : ∀ r ∈ files.cat, fld0 r ≠ [] := by
  have h : (recsOf Tryz.f18).all (fun r => !(fld0 r).isEmpty) = true := cat_nonempty
  intro r hr
  have := List.all_eq_true.1 h r hr
  simpa using this
end Go.Proofs.YtchkckfadennhaaGreatDoor
