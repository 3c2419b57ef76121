/- decomp.Full at the files. -/
import Derived.Test.YtpmbebofinlmmaaGreatDoorDec2W
import Derived.Test.YtpmbebofinlmmaaGreatDoorCatP
import Derived.Test.YtpmbebofinlmmaaGreatDoorPur
import Derived.Test.YtpmbebofinlmmaaGreatDoorLod2
namespace Go.Proofs.YtpmbebofinlmmaaGreatDoor
open Go.RowKit
set_option linter.unusedVariables false
set_option linter.unusedSimpArgs false

theorem dec_short : shortB (recsOf Tryz.f60) = true := by kernel_rfl
set_option maxRecDepth 100000 in
theorem files_short : shortB files.dec = true := dec_short
theorem endB_lev {rs : List Rec} (h : endB rs = true) : lev rs 4 = 0 := by
  unfold endB at h
  simp only [Bool.and_eq_true] at h
  exact Nat.eq_of_beq_eq_true h.1
theorem files_lev : lev files.dec 4 = 0 := endB_lev dec_end
theorem decf_walk {w : World} {m : Nat} (h : TabAt w m files) (hH : Hang w) (r : Int) (hr : (Lit.int .i64 r).wf = true) :
    Calls Tryz.prog 30 #[.pointer (some ⟨m + 3, 0, none⟩), .int .i64 r] w (CloneSaid (dall (partsOf files.dec) r) w) :=
  dec_walk h files_ok files_lev files_short (txOf_ne files_cat 0 (by decide)) hH r hr
end Go.Proofs.YtpmbebofinlmmaaGreatDoor
