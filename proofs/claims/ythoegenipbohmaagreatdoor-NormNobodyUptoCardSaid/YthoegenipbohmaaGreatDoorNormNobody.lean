/- The law rubricatorlaw08.NormNobody answers true for every input of at most 1048576 values. No further condition but the row's own: the listed variables hold what they were laid with. -/
import Derived.Test.YthoegenipbohmaaGreatDoorNormNobodyW
import Derived.Test.YthoegenipbohmaaGreatDoorRowM
import Derived.Test.YthoegenipbohmaaGreatDoorOpen
import Derived.Test.YthoegenipbohmaaGreatDoorCards
import Derived.Test.YthoegenipbohmaaGreatDoorTie
import Derived.Test.YthoegenipbohmaaGreatDoorNormNobodyC
import Derived.WalkKit
import Derived.ProofKit
import Derived.OpenShut
import Derived.ChangeOld
import Derived.Carry
import Derived.LaidMore
namespace Go.Proofs.YthoegenipbohmaaGreatDoor.normNobody
open Go.ChangeShapes Go.WideShapes Go.ChangeAt Go.RowKit
set_option linter.unusedVariables false

theorem own : ownKnob Tryz.prog.godebug = none := by kernel_rfl
theorem laidOut : laidOutB Tryz.prog = true := by kernel_rfl

theorem one_le {H : Type} (d : DataW H) : 1 ≤ Rows.uptoBulk d := by
  cases d with
  | lit l => cases l <;> simp [Rows.uptoBulk]
  | _ => simp [Rows.uptoBulk]
theorem length_le {H : Type} (l : List (DataW H)) : l.length ≤ Rows.uptoBulkAll l := by
  induction l with
  | nil => simp [Rows.uptoBulkAll]
  | cons x r ih => have := one_le x; simp only [Rows.uptoBulkAll, List.length_cons]; omega
theorem bulk_len {H : Type} {enc : TypeId × Value → H} {w : World} {t e : TypeId} (ht : Tryz.prog.underlying t = some (.slice e)) {A : Option Addr} {n c : Nat} {d : DataW H} {ps : List MemPlace} (hd : DataW.Trod enc Tryz.prog w 0 (fun _ => true) true t (.slice A n c) d ps) : n ≤ Rows.uptoBulk d := by
  obtain ⟨m, hm⟩ := hd
  rcases DataW.trod_slice ht hm with ⟨h, _⟩ | ⟨a, len, cap, elems, rest, fuel, _, h, hx, _, _, _, hlen, _⟩
  · have e : Value.slice A n c = .slice none 0 0 := by simpa [Value.cells] using h
    injection e with _ e2 _
    omega
  · have e : Value.slice A n c = .slice (some a) len cap := by simpa [Value.cells] using h
    injection e with e1 e2 e3
    injection hx with hd' _
    rw [hd']
    have := length_le (elems.map (·.1))
    rw [List.length_map] at this
    simp only [Rows.uptoBulk]
    omega
set_option maxRecDepth 100000 in
theorem contract (H : Type) (enc : TypeId × Value → H) (W : World) (base : Nat) (args : Array Value) (ds gs : List (DataW H)) (before : List MemPlace)
    (hval : ∀ (j : Nat) t v, Tryz.f6.params[j]? = some t → args[j]? = some v → Value.okWide Tryz.prog W .any base t v)
    (hW : DataW.Whole enc Tryz.prog Tryz.f6.params.toList Rows.normNobodySpec.vars false W args.toList ds gs before)
    (hk : Rows.uptoSmall H (ds ++ gs) = true) (hE : Env W) (hT : EnvT W) (hH : Hang W) :
    Calls Tryz.prog 6 args W fun e W' => ∃ v, e = .returned v ∧ Rows.normNobodySpec.post enc Tryz.prog Tryz.f6 false true false false W args v W' := by
  have hW' := hW
  obtain ⟨p, q, hA0, hV, rfl, hfz, hnd⟩ := hW
  have hA : DataW.TrodAll enc Tryz.prog W 0 (fun _ => true) true Tryz.f6.params.toList args.toList ds p := hA0
  rw [Tryz.params6] at hA hval
  obtain ⟨v0, vs0, d0, ds0, p0, q0, hargs, rfl, rfl, h0, r0⟩ := trodAll_cons hA
  obtain ⟨v1, vs1, d1, ds1, p1, q1, rfl, rfl, rfl, h1, r1⟩ := trodAll_cons r0
  obtain ⟨rfl, rfl, rfl⟩ := trodAll_nil r1
  obtain rfl : args = #[v0, v1] := by cases args; simp_all
  obtain ⟨rfl, rfl⟩ := trodVars_none hV
  have k0 := h0
  have lt0 : ∀ x ∈ p0, x.block < W.heap.size := by obtain ⟨m, hm⟩ := k0; exact DataW.trod_lt m _ _ _ hm
  obtain ⟨rs0, hz0⟩ := open_itemsV (hval 0 22 v0 rfl rfl) k0
  have k1 := h1
  have lt1 : ∀ x ∈ p1, x.block < W.heap.size := by obtain ⟨m, hm⟩ := k1; exact DataW.trod_lt m _ _ _ hm
  obtain ⟨zs1, hz1⟩ := open_listW (hval 1 37 v1 rfl rfl) k1
  obtain ⟨A0, c0, e0, _⟩ := hz0.1.1
  obtain ⟨A1, c1, e1, _⟩ := hz1.1.1
  have l0 : rs0.length ≤ Rows.uptoBulk d0 := bulk_len Tryz.underlying22 (e0 ▸ k0)
  have l1 : zs1.length ≤ Rows.uptoBulk d1 := bulk_len Tryz.underlying37 (e1 ▸ k1)
  have hk2 := of_decide_eq_true (show decide (Rows.uptoBulkAll ([d0, d1] ++ []) ≤ 1048576) = true from hk)
  simp only [List.cons_append, List.nil_append, Rows.uptoBulkAll] at hk2
  clear hA0
  refine (normNobody_walk W hz0 hz1 (by omega) (by omega) hE hT hH).mono fun e W' ⟨he, bel⟩ => ?_
  subst he
  exact ⟨_, rfl, _, _, _, [], _, [], hW', trodAll_mk1 (shut_bool Tryz.underlying4 _), trodAll_cons_mk (Below.trod laidOut (by kernel_rfl) (of_decide_eq_true (by kernel_rfl)) k0 bel lt0) (trodAll_cons_mk (Below.trod laidOut (by kernel_rfl) (of_decide_eq_true (by kernel_rfl)) k1 bel lt1) trodAll_mk0), rfl, bel.frame _, fun h => by cases h⟩

noncomputable abbrev laidWorld (os : Os) : World := World.laidAll Tryz.prog os Rows.normNobodyUptoRow.laid
theorem laid_met (os : Os) : laidMet Tryz.prog Rows.normNobodyUptoRow.laid ((laidWorld os).forCall (fun _ _ => 0) ⟨#[], #[.slice none 0 0, .slice none 0 0], []⟩).memory := laidMet_laidAll _ (by kernel_rfl) (by kernel_rfl)
theorem reads (os : Os) {H : Type} (enc : TypeId × Value → H) : ∃ places, DataW.whole enc Tryz.prog ((laidWorld os).forCall (fun _ _ => 0) ⟨#[], #[.slice none 0 0, .slice none 0 0], []⟩).memory Tryz.f6.params.toList Rows.normNobodySpec.vars false #[Value.slice none 0 0, Value.slice none 0 0].toList 8 = some ([.nil, .nil], [], places) :=
  ⟨[], by kernel_rfl⟩

set_option maxRecDepth 100000 in
theorem lifted (os : Os) (started : os.Started) (H : Type) (enc : TypeId × Value → H) (F : Stop.Interp) :
    ReturnsInHanded {} Tryz.checked os 6 .any ((Rows.OpenSpec.upto Rows.normNobodySpec).preRow enc Tryz.prog Tryz.f6 Rows.normNobodyUptoRow.domain false Rows.normNobodyUptoRow.laid) (((Rows.OpenSpec.upto Rows.normNobodySpec).at F).post enc Tryz.prog Tryz.f6 false true false false) := by
  obtain ⟨places, hx⟩ := reads os enc
  refine returnsInHanded_of_row (C := Tryz.checked) (s := Rows.OpenSpec.upto Rows.normNobodySpec) own started (by kernel_rfl) Tryz.func6
    (witness_row_sh (enc := enc) (C := Tryz.checked) false (laidWorld os) #[.slice none 0 0, .slice none 0 0] (World.laidAll_os _ _ _) (World.shaped_of_ZipB (by kernel_rfl) (by kernel_rfl)) (by kernel_rfl)
      (OpenSpec.preRow_of_cond 8 hx (by kernel_rfl) (fun k hk => by cases hk; kernel_rfl) (by kernel_rfl) (laid_met os))) ?_
  intro W base args ds gs before hval hW _ hcond _ hL hS _
  rw [MakeChecks.laidMetH_plain _ _ _ (by kernel_rfl)] at hL
  exact contract H enc W base args ds gs before hval hW (hcond _ rfl) (env_of_shape hS) (envT_of_laid hL (by simp [Rows.normNobodyUptoRow])) (hang_of_laid hL (by simp [Rows.normNobodyUptoRow]))

theorem said : Rows.NormNobodyUptoSaid :=
  OpenClaim.holds_of_cond 6 Tryz.f6 rfl rfl rfl rfl rfl rfl rfl ⟨rfl, rfl, rfl, rfl, rfl⟩ rfl rfl rfl rfl rfl (by kernel_rfl) Tryz.func6 closed
    (of_decide_eq_true (by kernel_rfl)) (by unfold Func.isWrapper; first | (rw [if_pos (by decide +kernel)]; kernel_rfl) | (rw [if_neg (by decide +kernel)]; exact ⟨rfl, rfl⟩))
    (fun os started H enc _ F => by rw [OpenClaim.pre_eq_preRow]; exact lifted os started H enc F)

theorem plain (f : FuncId) (fn : Func) (hf : Tryz.pinned.checked.prog.funcNamed "rubricator/rubricatorlaw08.NormNobody" = some f) (hfn : Tryz.pinned.checked.prog.funcs[f]? = some fn) :
    true = Tryz.pinned.checked.prog.looks [] ∧ ∀ (j : Nat) t, fn.params[j]? = some t → Tryz.pinned.checked.prog.wantsStandIn t = false := by
  obtain rfl : f = 6 := Option.some.inj ((show Tryz.prog.funcNamed "rubricator/rubricatorlaw08.NormNobody" = some 6 by kernel_rfl).symm.trans hf) |>.symm
  obtain rfl : fn = Tryz.f6 := (Option.some.inj (Tryz.func6.symm.trans hfn)).symm
  refine ⟨by kernel_rfl, fun j t ht => ?_⟩
  rw [Tryz.params6] at ht
  have hm : t ∈ [22, 37] := by simpa using Array.mem_of_getElem? ht
  have hall : ([22, 37].all fun u => !Tryz.prog.wantsStandIn u) = true := by kernel_rfl
  exact (show Tryz.prog.wantsStandIn t = false by simpa using List.all_eq_true.1 hall t hm)

theorem card : Rows.NormNobodyUptoCardSaid :=
  Claim7.holds_tied_plain_at .later [] _ _ _ _ said (fun _ h => by cases h) (by kernel_rfl) (fun _ h => by cases h) normNobodyUpto_row_tie rfl ⟨rfl, rfl⟩ (by kernel_rfl) rfl plain (by kernel_rfl)
#print axioms card
end Go.Proofs.YthoegenipbohmaaGreatDoor.normNobody
namespace Go.Proofs.YthoegenipbohmaaGreatDoor
theorem normNobody_holds : Rows.NormNobodyUptoCardSaid := normNobody.card
end Go.Proofs.YthoegenipbohmaaGreatDoor
