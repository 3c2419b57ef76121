/- rubricatorlaw12.ItemsAfter answers true. -/
import Derived.Test.YthoegenipbohmaaGreatDoorItmD
namespace Go.Proofs.YthoegenipbohmaaGreatDoor
open Go.RowKit Utf Itm
set_option linter.unusedVariables false
set_option linter.unusedSimpArgs false
set_option maxRecDepth 100000 in
theorem itemsAfter_walk {v0 : Value} {bs : List Nat} (w : World) (h : BytesAt w v0 bs) (canon : Bool) (at_ : Int) (hw : (Lit.int .i64 at_).wf = true) (hE : Env w) (hT : EnvT w) (hH : Hang w) : Calls Tryz.prog 7 #[v0, .bool canon, .int .i64 at_] w fun e w' => e = .returned (.bool true) ∧ Below w.heap.size w w' := by
  have HBo := Lib.hid (both_walk h canon hE hT hH)
  have hsl := subj_len canon (bs.take 300) (take300 bs)
  clear h hE hT hH
  go_enter Tryz.func7, Tryz.ntmps7
  go_wp2_with fail
  refine HBo.out.mono ?_
  rintro e w1 hbo
  obtain ⟨p, q, B, B', rfl, hx, hq, hb1⟩ := hbo.get
  generalize subj canon (bs.take 300) = L at *
  generalize bs.take 300 = cs at *
  have HX := Lib.hid hx
  have HQ := Lib.hid hq
  have HB := Lib.hid hb1
  clear hbo hx hq hb1 HBo
  go_wp2_with fail
  refine (tafter_walk HX.out (by omega) at_).mono ?_
  rintro e w2 ⟨n, rfl, hn, rfl⟩
  have HA := Lib.hid hn
  clear hn HX
  go_wp2_with fail
  refine (rafter_walk HQ.out (by omega) at_).mono ?_
  rintro e w3 ⟨n', rfl, hn, hb⟩
  obtain rfl := aft_one HA.out hn
  replace HB := Lib.hid (HB.out.trans (hb.mono HB.out.size))
  clear hn hb HQ HA
  go_wp2_with fail
  go_ret
  exact ⟨rfl, HB.out⟩
end Go.Proofs.YthoegenipbohmaaGreatDoor
