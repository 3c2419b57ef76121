/- props: Fold; fold: to, Full, Simple. -/
import Derived.Test.YtpmbebofinlmmaaGreatDoorAcc2W
namespace Go.Proofs.YtpmbebofinlmmaaGreatDoor
open Go.RowKit
set_option linter.unusedVariables false
set_option linter.unusedSimpArgs false

def foldz (Φ : Files) (full : Bool) (r : Int) : List Int := match foldsOf full Φ.fol r with | some l => l.map (fun n : Nat => (n : Int)) | none => [r]
theorem bump_len (l : List Nat) (d : Nat) : (bump l d).length = l.length := by cases l <;> rfl
section
variable {w : World} {m : Nat} {Φ : Files}
theorem folds_len (hok : FilesOk Φ) {full : Bool} {r : Int} {l : List Nat} (h : foldsOf full Φ.fol r = some l) : l.length ≤ 1000000000 := by
  obtain ⟨x, hx, _, _, _, rfl⟩ := foldsOf_some full Φ.fol Φ.fol (fun _ => none) (fun _ h => h) (fun _ _ h => by cases h) r l h
  have h1 := pts_len (fld1 x)
  have h2 := (hok.fol x hx).len
  rw [bump_len]
  omega
set_option maxRecDepth 100000 in
theorem fold_walk (h : TabAt w m Φ) (hok : FilesOk Φ) (r : Int) (hr : (Lit.int .i64 r).wf = true) (full : Bool) : Calls Tryz.prog 41 #[.pointer (some ⟨m + 3, 0, none⟩), .int .i64 r, .bool full] w (CloneSaid (foldz Φ full r) w) := by
  have hn := none_walk h
  obtain ⟨⟨p0, p1, p2, p3, p4, vv, kv, hb, hf⟩, _, ⟨c0, hc0, hp0⟩, ⟨c1, hc1, hp1⟩⟩ := h
  have hc8 : w.cell? ⟨m + 3, 8, none⟩ = some (.map (some (m + 1))) := hb.cell 8
  have hc9 : w.cell? ⟨m + 3, 9, none⟩ = some (.map (some (m + 2))) := hb.cell 9
  have key : ∃ v, (Instr.lookup 67 (.map (some (if full then m + 2 else m + 1))) (.int .i64 r) true).run Tryz.prog w = .ok (.tuple #[v, .bool (foldsOf full Φ.fol r).isSome]) w ∧
      ∀ l, foldsOf full Φ.fol r = some l → Calls Tryz.prog 49 #[v] w (CloneSaid (foldz Φ full r) w) := by
    have k2 : ∀ (B c b : Nat), PtsAt w B b c (foldsOf full Φ.fol) → ∃ v, (Instr.lookup 67 (.map (some b)) (.int .i64 r) true).run Tryz.prog w = .ok (.tuple #[v, .bool (foldsOf full Φ.fol r).isSome]) w ∧
        ∀ l, foldsOf full Φ.fol r = some l → Calls Tryz.prog 49 #[v] w (CloneSaid (foldz Φ full r) w) := by
      intro B c b hp
      obtain ⟨v, hlook, hv⟩ := hp.look r hr true
      refine ⟨v, hlook, fun l hF => ?_⟩
      unfold foldz
      rw [hF] at hv ⊢
      simp only at hv ⊢
      rw [ints_intz] at hv
      exact clone_walk (l := l.map fun n : Nat => (n : Int)) (by unfold IntsAt; rw [List.length_map]; exact hv) (by rw [List.length_map]; exact folds_len hok hF)
    cases full
    · exact k2 _ _ _ hp0
    · exact k2 _ _ _ hp1
  obtain ⟨v, hlook, hcl⟩ := key
  have HN := Lib.hid hn
  have HC := Lib.hid hcl
  have Hnone := Lib.hid (fun (h : foldsOf full Φ.fol r = none) => (show foldz Φ full r = [r] by unfold foldz; rw [h]))
  clear hn hcl hb hf hp0 hp1
  cases hF : foldsOf full Φ.fol r with
  | some l =>
    have HC2 := Lib.hid (HC.out l hF)
    rw [hF] at hlook
    simp only [Option.isSome_some] at hlook
    clear HC Hnone hF
    cases full
    all_goals
      simp only [Bool.false_eq_true, if_false, if_true] at hlook
      go_enter Tryz.func41, Tryz.ntmps41
      go_wp2_with fail
      refine HN.out.mono ?_
      rintro e w' ⟨rfl, rfl⟩
      go_wp2_with fail
      refine HC2.out.mono ?_
      rintro e w1 ⟨v1, rfl, hs⟩
      have HS := Lib.hid hs
      clear hs HC2 HN
      go_wp2_with fail
      go_ret
      exact ⟨_, rfl, HS.out⟩
  | none =>
    have HN2 := Lib.hid (Hnone.out hF)
    rw [hF] at hlook
    simp only [Option.isSome_none] at hlook
    clear HC Hnone hF
    cases full
    all_goals
      simp only [Bool.false_eq_true, if_false, if_true] at hlook
      go_enter Tryz.func41, Tryz.ntmps41
      go_wp2_with fail
      refine HN.out.mono ?_
      rintro e w' ⟨rfl, rfl⟩
      go_wp2_with fail
      go_ret
      refine ⟨_, rfl, ?_, alloc_below _ _⟩
      rw [HN2.out]
      exact own_fresh1 _ _ _
/-- What a code point folds to, simply. -/
def simpleOf (Φ : Files) (r : Int) : Int := (foldz Φ false r).headD 0
end
end Go.Proofs.YtpmbebofinlmmaaGreatDoor
