/- rubricatorlaw08.NormRunes answers true. -/
import Derived.Test.YthoegenipbohmaaGreatDoorRef8M
import Derived.Test.YthoegenipbohmaaGreatDoorRowM
namespace Go.Proofs.YthoegenipbohmaaGreatDoor
open Go.RowKit Go.Sort Stb
set_option linter.unusedVariables false
set_option linter.unusedSimpArgs false
theorem items08_files {w : World} {B b : Nat} (hr : RefAt w B b files) : ∀ W, Below w.heap.size w W → ∀ u xs, ItsAt W u xs → xs.length ≤ 100000 → Calls Tryz.prog 17 #[.pointer (some ⟨b, 0, none⟩), u] W (ItemsSaid (nfd files xs) W) := by
  intro W hb u xs hx hxl
  have h1 := (partsL_len (Φ := files) files_short2 xs).1
  have h2 := nfd_len (Φ := files) xs
  unfold nfd at h2
  rw [nfd_its, ord_len] at h2
  exact items08_walk (fun W' hb' r => full07_walk files_ok files_parts files_short files_lev r ((hr.below hb).below hb')) (fun W' hb' r => combining_ref ((hr.below hb).below hb') files_ok files_comb r) hx (by omega) (by omega)
end Go.Proofs.YthoegenipbohmaaGreatDoor
