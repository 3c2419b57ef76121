/- slices.Equal of ranges, where they are the same. -/
import Derived.Test.YtkgomgfhfoomhaaGreatDoorClo
namespace Go.Proofs.YtkgomgfhfoomhaaGreatDoor
open Go.RowKit
set_option linter.unusedVariables false
set_option linter.unusedSimpArgs false
set_option maxRecDepth 100000 in
theorem requal_walk {w : World} {v u : Value} {rs : List Rg} (h : RListAt w v rs) (h' : RListAt w u rs) : Calls Tryz.prog 38 #[v, u] w fun e w' => e = .returned (.bool true) ∧ Below w.heap.size w w' := by
  obtain ⟨A, c, rfl, hn, hz⟩ := h
  obtain ⟨A', c', rfl, _, hz'⟩ := h'
  have HZ := Lib.hid hz
  have HZ' := Lib.hid hz'
  have g0 : (((rs.length : Nat) : Int) != ((rs.length : Nat) : Int)) = false := by simp
  clear hz hz'
  go_enter Tryz.func38, Tryz.ntmps38
  go_wp2_with fail
  go_loopw [13] (fun i wr => ∃ k : Nat, k ≤ rs.length ∧ i = .int .i64 k ∧ Hid (Below w.heap.size w wr)) (fun i _ => rs.length - (intOf i).toNat)
  case atStart => exact ⟨0, by omega, rfl, Below.refl _ _⟩
  case round =>
    obtain ⟨k, hk, rfl, HB⟩ := hrel
    by_cases hlt : k < rs.length
    · obtain ⟨ad, rfl, had⟩ := HZ.out (by omega)
      obtain ⟨ad', rfl, had'⟩ := HZ'.out (by omega)
      obtain ⟨x, hx⟩ : ∃ x, x = rs[k] := ⟨_, rfl⟩
      have c0 : wr.cell? (ad.add (k * 2)) = some (.int .i64 x.lo) := by rw [hx]; exact cell_later HB.out (had k hlt).1
      have c1 : wr.cell? ⟨(ad.add (k * 2)).block, (ad.add (k * 2)).off + 1, none⟩ = some (.int .i64 x.hi) := by rw [hx]; exact cell_later HB.out (had k hlt).2
      have b0 : wr.cell? (ad'.add (k * 2)) = some (.int .i64 x.lo) := by rw [hx]; exact cell_later HB.out (had' k hlt).1
      have b1 : wr.cell? ⟨(ad'.add (k * 2)).block, (ad'.add (k * 2)).off + 1, none⟩ = some (.int .i64 x.hi) := by rw [hx]; exact cell_later HB.out (had' k hlt).2
      clear had had' hx
      go_wp2_with fail
      go_quiet (fail)
      simp only [Exit.then]
      go_wp2_with fail
      refine ⟨⟨k + 1, by omega, by go_num, HB.out.trans ((below_drewN _ _).mono HB.out.size)⟩, ?_⟩
      simp [intOf]
      omega
    · have hkl : k = rs.length := by omega
      subst hkl
      go_wp2_with fail
      go_ret
      exact ⟨rfl, HB.out⟩
end Go.Proofs.YtkgomgfhfoomhaaGreatDoor
