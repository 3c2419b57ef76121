/- fold.Closure at the files; rubricatorlaw09: awake. -/
import Derived.Test.YtkgomgfhfoomhaaGreatDoorAwake9W
namespace Go.Proofs.YtkgomgfhfoomhaaGreatDoor
open Go.RowKit
set_option linter.unusedVariables false
set_option linter.unusedSimpArgs false

set_option maxRecDepth 100000 in
theorem clof_walk {w : World} {m : Nat} {rs : List Rg} {v : Value} (ht : TabAt w m files) (hE : Env w) (hl : RListAt w v rs) (hv : v = .slice none 0 0 ∨ ∃ ad n c, v = .slice (some ad) n c) (hrl : rs.length ≤ 500000) :
    Calls Tryz.prog 37 #[.pointer (some ⟨m + 3, 0, none⟩), v] w (ClosureSaid files rs w) :=
  closure_walk ht files_ok texts_ok.fol hE (awakeK_of files_awake).2 (fun r hr => simple_wf r hr) hl hv hrl
set_option maxRecDepth 100000 in
theorem awake9_walk (w : World) (hE : Env w) (hT : EnvT w) : Calls Tryz.prog 20 #[] w fun e w' => e = .returned (.bool true) ∧ Below w.heap.size w w' := by
  have HLD := Lib.hid (load_calls w hE hT)
  have HC := Lib.hid (fun (W : World) (m : Nat) (v : Value) (ht : TabAt W m files) (hb : Below w.heap.size w W) (hl : RListAt W v [⟨107, 107⟩]) (hv : v = .slice none 0 0 ∨ ∃ ad n c, v = .slice (some ad) n c) => clof_walk ht (hE.below hb) hl hv (by decide))
  have HK := Lib.hid (awakeK_of files_awake).1
  generalize files = Φ at *
  clear hE hT
  go_enter Tryz.func20, Tryz.ntmps20
  go_wp2_with fail
  refine HLD.out.mono ?_
  rintro e w1 ⟨rfl, ht, hb1⟩
  have hba := alloc_below w1 (Obj.cells #[Value.int IntKind.i64 107, Value.int IntKind.i64 107] 48)
  have hown : RgsAt (w1.alloc (Obj.cells #[Value.int IntKind.i64 107, Value.int IntKind.i64 107] 48)) w1.heap.size (.slice (some ⟨w1.heap.size, 0, none⟩) 1 1) [⟨107, 107⟩] := own_cellsN w1 48 2 1 [Value.int IntKind.i64 107, Value.int IntKind.i64 107] rfl (by decide)
  have HT1 := Lib.hid (ht.below hba)
  have HB1 := Lib.hid (hb1.trans (hba.mono hb1.size))
  have HL1 := Lib.hid (RListAt.of_own hown)
  clear ht hb1 hba HLD hown
  go_wp2_with fail
  refine (HC.out _ _ _ HT1.out HB1.out HL1.out (.inr ⟨_, _, _, rfl⟩)).mono ?_
  rintro e w2 ⟨v2, M, s, rfl, hp, hs, hr2, hM, hb2, _⟩
  obtain ⟨h1, h2⟩ := make_set hp hs
  have hj : joinAll s = kelvin := can_unique h1 kelvin_can fun r => (h2 r).trans (awake_set HK.out hM r)
  rw [hj] at hr2
  have hba := alloc_below w2 (Obj.cells #[Value.int IntKind.i64 75, Value.int IntKind.i64 75, Value.int IntKind.i64 107, Value.int IntKind.i64 107, Value.int IntKind.i64 8490, Value.int IntKind.i64 8490] 48)
  have hown : RgsAt (w2.alloc (Obj.cells #[Value.int IntKind.i64 75, Value.int IntKind.i64 75, Value.int IntKind.i64 107, Value.int IntKind.i64 107, Value.int IntKind.i64 8490, Value.int IntKind.i64 8490] 48)) w2.heap.size (.slice (some ⟨w2.heap.size, 0, none⟩) 3 3) kelvin := own_cellsN w2 48 2 3 [Value.int IntKind.i64 75, Value.int IntKind.i64 75, Value.int IntKind.i64 107, Value.int IntKind.i64 107, Value.int IntKind.i64 8490, Value.int IntKind.i64 8490] rfl (by decide)
  have HB2 := Lib.hid ((HB1.out.trans (hb2.mono HB1.out.size)).trans (hba.mono (Nat.le_trans HB1.out.size hb2.size)))
  have HE := Lib.hid (requal_walk (RListAt.below (RListAt.of_own hr2) hba) (RListAt.of_own hown))
  clear hp hs hr2 hM hb2 h1 h2 hj hba hown HT1 HB1 HL1 HC HK
  go_wp2_with fail
  refine HE.out.mono ?_
  rintro e w3 ⟨rfl, hb3⟩
  have HB3 := Lib.hid (HB2.out.trans (hb3.mono HB2.out.size))
  clear hb3 HE HB2
  go_wp2_with fail
  go_ret
  exact ⟨rfl, HB3.out⟩
end Go.Proofs.YtkgomgfhfoomhaaGreatDoor
