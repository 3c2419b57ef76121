/- The files' texts, as the program's own functions hold them, and their records. -/
import Derived.Test.YtmdkjljcnegmeaaDoorParseW
namespace Go.Proofs.YtmdkjljcnegmeaaDoor
open Go.RowKit
set_option linter.unusedVariables false

/-- The text that a function of one constant returns. -/
def textOf (f : Func) : ByteArray :=
  match f.body with
  | some (.seq _ (.seq (.region _ ops _) _)) => match ops[0]? with
    | some o => match o.op with
      | .assign (.const (.string s)) => s
      | _ => ⟨#[]⟩
    | none => ⟨#[]⟩
  | _ => ⟨#[]⟩
def recsOf (f : Func) : List Rec := (Sp.parse (textOf f).data.toList).getD []
def goodText (f : Func) : Bool := (Sp.parse (textOf f).data.toList).isSome && decide ((textOf f).size < 1000000) && (textOf f).data.toList.all fun b => decide (b.toNat < 128)
theorem parse_of_good {f : Func} (h : goodText f = true) (w : World) (hE : Env w) : Calls Tryd.prog 26 #[.string (textOf f)] w (ParseSaid (recsOf f) w) := by
  unfold goodText at h
  simp only [Bool.and_eq_true, decide_eq_true_eq, List.all_eq_true] at h
  obtain ⟨⟨h1, h2⟩, h3⟩ := h
  obtain ⟨recs, hr⟩ := Option.isSome_iff_exists.1 h1
  have : recsOf f = recs := by unfold recsOf; rw [hr]; rfl
  rw [this]
  exact parse_walk _ recs w h2 h3 hr hE
theorem good_categories : goodText Tryd.f21 = true := by kernel_rfl
set_option maxRecDepth 100000 in
theorem categories_calls (w : World) : Calls Tryd.prog 21 #[] w fun e w' => e = .returned (.string (textOf Tryd.f21)) ∧ w = w' := by
  go_enter Tryd.func21, Tryd.ntmps21
  go_wp2
  go_ret
  exact ⟨by kernel_rfl, rfl⟩
theorem good_combining : goodText Tryd.f22 = true := by kernel_rfl
set_option maxRecDepth 100000 in
theorem combining_calls (w : World) : Calls Tryd.prog 22 #[] w fun e w' => e = .returned (.string (textOf Tryd.f22)) ∧ w = w' := by
  go_enter Tryd.func22, Tryd.ntmps22
  go_wp2
  go_ret
  exact ⟨by kernel_rfl, rfl⟩
theorem good_scripts : goodText Tryd.f23 = true := by kernel_rfl
set_option maxRecDepth 100000 in
theorem scripts_calls (w : World) : Calls Tryd.prog 23 #[] w fun e w' => e = .returned (.string (textOf Tryd.f23)) ∧ w = w' := by
  go_enter Tryd.func23, Tryd.ntmps23
  go_wp2
  go_ret
  exact ⟨by kernel_rfl, rfl⟩
theorem good_clusters : goodText Tryd.f24 = true := by kernel_rfl
set_option maxRecDepth 100000 in
theorem clusters_calls (w : World) : Calls Tryd.prog 24 #[] w fun e w' => e = .returned (.string (textOf Tryd.f24)) ∧ w = w' := by
  go_enter Tryd.func24, Tryd.ntmps24
  go_wp2
  go_ret
  exact ⟨by kernel_rfl, rfl⟩
theorem good_words : goodText Tryd.f25 = true := by kernel_rfl
set_option maxRecDepth 100000 in
theorem words_calls (w : World) : Calls Tryd.prog 25 #[] w fun e w' => e = .returned (.string (textOf Tryd.f25)) ∧ w = w' := by
  go_enter Tryd.func25, Tryd.ntmps25
  go_wp2
  go_ret
  exact ⟨by kernel_rfl, rfl⟩
theorem good_decompositions : goodText Tryd.f27 = true := by kernel_rfl
set_option maxRecDepth 100000 in
theorem decompositions_calls (w : World) : Calls Tryd.prog 27 #[] w fun e w' => e = .returned (.string (textOf Tryd.f27)) ∧ w = w' := by
  go_enter Tryd.func27, Tryd.ntmps27
  go_wp2
  go_ret
  exact ⟨by kernel_rfl, rfl⟩
theorem good_folding : goodText Tryd.f29 = true := by kernel_rfl
set_option maxRecDepth 100000 in
theorem folding_calls (w : World) : Calls Tryd.prog 29 #[] w fun e w' => e = .returned (.string (textOf Tryd.f29)) ∧ w = w' := by
  go_enter Tryd.func29, Tryd.ntmps29
  go_wp2
  go_ret
  exact ⟨by kernel_rfl, rfl⟩
end Go.Proofs.YtmdkjljcnegmeaaDoor
