/- fold.Same; what foldings come to. -/
import Derived.Test.YtkgomgfhfoomhaaGreatDoorAcc3W
import Derived.Test.YtkgomgfhfoomhaaGreatDoorLod2
import Derived.Test.YtkgomgfhfoomhaaGreatDoorPur
namespace Go.Proofs.YtkgomgfhfoomhaaGreatDoor
open Go.RowKit
set_option linter.unusedVariables false
set_option linter.unusedSimpArgs false

section
variable {w : World} {m : Nat} {Φ : Files}
theorem foldz_cons (hok : FilesOk Φ) (full : Bool) (r : Int) : ∃ n l, foldz Φ full r = n :: l := by
  unfold foldz
  cases hF : foldsOf full Φ.fol r with
  | none => exact ⟨r, [], rfl⟩
  | some l =>
    obtain ⟨x, hx, _, _, _, rfl⟩ := foldsOf_some full Φ.fol Φ.fol (fun _ => none) (fun _ h => h) (fun _ _ h => by cases h) r l hF
    obtain ⟨n, l, hp⟩ := List.exists_cons_of_ne_nil (hok.fol x hx).pts
    rw [hp]
    exact ⟨_, _, rfl⟩
theorem foldz_wf (hok : FilesOk Φ) (full : Bool) (r : Int) (hr : (Lit.int .i64 r).wf = true) : ∀ x ∈ foldz Φ full r, (Lit.int .i64 x).wf = true := by
  intro x hx
  unfold foldz at hx
  cases hF : foldsOf full Φ.fol r with
  | none =>
    rw [hF] at hx
    obtain rfl : x = r := by simpa using hx
    exact hr
  | some l =>
    rw [hF] at hx
    obtain ⟨y, hy, _, h1, h2, rfl⟩ := foldsOf_some full Φ.fol Φ.fol (fun _ => none) (fun _ h => h) (fun _ _ h => by cases h) r l hF
    obtain ⟨n, hn, rfl⟩ := List.mem_map.1 hx
    have hle := pts_le (fld1 y)
    have hhi := (hok.fol y hy).hi
    have hn2 : n ≤ 2228222 := by
      cases hp : Sp.pts (fld1 y) with
      | nil => rw [hp] at hn; simp [bump] at hn
      | cons a b =>
        rw [hp] at hn hle
        have ha := hle a List.mem_cons_self
        rcases List.mem_cons.1 hn with rfl | hn
        · omega
        · have := hle n (List.mem_cons_of_mem _ hn)
          omega
    exact wf_i64 (by omega) (by omega)
set_option maxRecDepth 100000 in
theorem same_walk (h : TabAt w m Φ) (hok : FilesOk Φ) (a b : Int) (ha : (Lit.int .i64 a).wf = true) (hb : (Lit.int .i64 b).wf = true) :
    Calls Tryz.prog 18 #[.pointer (some ⟨m + 3, 0, none⟩), .int .i64 a, .int .i64 b] w fun e w' => e = .returned (.bool (simpleOf Φ a == simpleOf Φ b)) ∧ Below w.heap.size w w' := by
  have hwa := to_walk h hok a ha false
  have hwb := fun w' (hb' : Below w.heap.size w w') => to_walk (h.below hb') hok b hb false
  simp only [Bool.false_eq_true, if_false] at hwa hwb
  obtain ⟨na, la, ea⟩ := foldz_cons hok false a
  obtain ⟨nb, lb, eb⟩ := foldz_cons hok false b
  unfold simpleOf
  rw [ea] at hwa ⊢
  simp only [eb] at hwb ⊢
  simp only [List.headD_cons]
  have HA := Lib.hid hwa
  have HB := Lib.hid hwb
  clear hwa hwb ea eb h hok
  go_enter Tryz.func18, Tryz.ntmps18
  go_wp2_with fail
  refine HA.out.mono ?_
  rintro e w1 ⟨v1, rfl, hv1, hb1⟩
  have HB1 := Lib.hid hb1
  have HV1 := Lib.hid hv1
  clear hb1 hv1 HA
  go_wp2_with fail
  refine (HB.out _ HB1.out).mono ?_
  rintro e w2 ⟨v2, rfl, hv2, hb2⟩
  have hv1 := own_below HV1.out hb2
  have hla : (na :: la).length = la.length + 1 := rfl
  have hlb : (nb :: lb).length = lb.length + 1 := rfl
  obtain ⟨g1, k1, rfl, _, _, _, _⟩ := own_form hv1 (by rw [hla]; omega)
  obtain ⟨g2, k2, rfl, _, _, _, _⟩ := own_form hv2 (by rw [hlb]; omega)
  have hl1 := own_len hv1
  have hl2 := own_len hv2
  unfold maxLen at hl1 hl2
  have c1 : w2.cell? ⟨g1, 0, none⟩ = some (.int .i64 na) := own_cell hv1 0 _ rfl
  have c2 : w2.cell? ⟨g2, 0, none⟩ = some (.int .i64 nb) := own_cell hv2 0 _ rfl
  rw [hla, hlb] at *
  have HB2 := Lib.hid (HB1.out.trans (hb2.mono HB1.out.size))
  have d1 : decide (((la.length + 1 : Nat) : Int) > 0) = true := by rw [decide_eq_true_eq]; omega
  have d2 : decide (((lb.length + 1 : Nat) : Int) > 0) = true := by rw [decide_eq_true_eq]; omega
  clear hv1 hv2 hb2 HV1 HB1 HB hla hlb
  go_wp2_with fail
  go_quiet (fail)
  simp only [Exit.then]
  go_wp2_with fail
  go_ret
  exact ⟨rfl, HB2.out.trans ((below_drewN _ _).mono HB2.out.size)⟩
end
theorem foldz_settles (r : Int) : ∀ x ∈ foldz files true r, foldz files true x = [x] := by
  intro x hx
  have key : foldsOf true files.fol x = none ∨ (x = r ∧ foldsOf true files.fol r = none) := by
    unfold foldz at hx
    cases hF : foldsOf true files.fol r with
    | none =>
      rw [hF] at hx
      exact .inr ⟨by simpa using hx, rfl⟩
    | some l =>
      rw [hF] at hx
      obtain ⟨n, hn, rfl⟩ := List.mem_map.1 hx
      exact .inl ((folds_settle (fol_settle true) hF).2 n hn)
  have : foldsOf true files.fol x = none := by
    rcases key with h | ⟨rfl, h⟩
    · exact h
    · exact h
  unfold foldz
  rw [this]
theorem simple_settles (r : Int) : simpleOf files (simpleOf files r) = simpleOf files r := by
  have key : ∀ x, foldsOf false files.fol x = none → simpleOf files x = x := fun x h => by
    unfold simpleOf foldz
    rw [h]
    rfl
  cases hF : foldsOf false files.fol r with
  | none => rw [key r hF, key r hF]
  | some l =>
    obtain ⟨h1, h2⟩ := folds_settle (fol_settle false) hF
    obtain ⟨n, l, rfl⟩ := List.exists_cons_of_ne_nil h1
    have e : simpleOf files r = (n : Int) := by
      unfold simpleOf foldz
      rw [hF]
      rfl
    rw [e]
    exact key _ (h2 n List.mem_cons_self)
theorem simple_wf (r : Int) (hr : (Lit.int .i64 r).wf = true) : (Lit.int .i64 (simpleOf files r)).wf = true := by
  obtain ⟨n, l, h⟩ := foldz_cons files_ok false r
  have := foldz_wf files_ok false r hr
  rw [h] at this
  unfold simpleOf
  rw [h]
  exact this n List.mem_cons_self
end Go.Proofs.YtkgomgfhfoomhaaGreatDoor
