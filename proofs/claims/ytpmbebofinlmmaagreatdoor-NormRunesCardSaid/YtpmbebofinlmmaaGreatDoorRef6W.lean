/- What the reference's tables tell: Category, Word, Script, Combining. -/
import Derived.Test.YtpmbebofinlmmaaGreatDoorRef6M
namespace Go.Proofs.YtpmbebofinlmmaaGreatDoor
open Go.RowKit
set_option linter.unusedVariables false
set_option linter.unusedSimpArgs false

section
variable {w : World} {B b : Nat} {Φ : Files}
theorem category_ref (h : RefAt w B b Φ) (hok : FilesOk Φ) (r : Int) : Calls Tryz.prog 31 #[.pointer (some ⟨b, 0, none⟩), .int .i64 r] w fun e w' => e = .returned (.string ⟨(txOf Φ.cat r [67, 110]).toArray⟩) ∧ Below w.heap.size w w' := by
  obtain ⟨v0, v1, v2, v3, v4, v5, v6, v7, v8, f0, f1, f2, f3, f4, f5, f6, u7, u8, h0, h1, h2, h3, h4, h5, h6, h7, h8, h9⟩ := h.all
  have hc : w.cell? ⟨b, 0, none⟩ = some v0 := h0.cell 0
  have HO := Lib.hid (or_ref h1 (listOk_ne hok.cat) r (by have := hok.cat.le; omega) [67, 110])
  obtain ⟨A0, c0, rfl⟩ := own_slice h1.row
  rw [txOf_first (listOk_hi hok.cat)]
  clear h0 h1 h2 h3 h4 h5 h6 h7 h8 h9 h
  go_enter Tryz.func31, Tryz.ntmps31
  go_wp2_with fail
  refine HO.out.mono ?_
  rintro e w1 ⟨rfl, hb⟩
  have HB := Lib.hid hb
  clear hb HO
  go_wp2_with fail
  go_ret
  exact ⟨rfl, HB.out⟩
end
end Go.Proofs.YtpmbebofinlmmaaGreatDoor
