/- rubricatorlaw09: awake; FoldNobody answers true. -/
import Derived.Test.YtmdkjljcnegmeaaDoorAwake9W
namespace Go.Proofs.YtmdkjljcnegmeaaDoor
open Go.RowKit
set_option linter.unusedVariables false
set_option linter.unusedSimpArgs false

set_option maxRecDepth 100000 in
theorem clof_walk {w : World} {m : Nat} {rs : List Rg} {v : Value} (ht : TabAt w m files) (hE : Env w) (hl : RListAt w v rs) (hpos : 0 < rs.length) (hrl : rs.length ≤ 500000) :
    Calls Tryd.prog 15 #[.pointer (some ⟨m + 3, 0, none⟩), v] w (ClosureSaid files rs w) :=
  closure_walk ht files_ok texts_ok.fol hE (awakeK_of files_awake).2 (fun r hr => simple_wf r hr) hl hpos hrl
set_option maxRecDepth 100000 in
theorem awake9_walk (w : World) (hE : Env w) (hT : EnvT w) : Calls Tryd.prog 16 #[] w fun e w' => e = .returned (.bool true) ∧ Below w.heap.size w w' := by
  have HLD := Lib.hid (load_calls w hE hT)
  have HC := Lib.hid (fun (W : World) (m : Nat) (v : Value) (ht : TabAt W m files) (hb : Below w.heap.size w W) (hl : RListAt W v [⟨107, 107⟩]) => clof_walk ht (hE.below hb) hl (by decide) (by decide))
  have HK := Lib.hid (awakeK_of files_awake).1
  generalize files = Φ at *
  clear hE hT
  go_enter Tryd.func16, Tryd.ntmps16
  go_wp2_with fail
  refine HLD.out.mono ?_
  rintro e w1 ⟨rfl, ht, hb1⟩
  have hba := alloc_below w1 (Obj.cells #[Value.int IntKind.i64 107, Value.int IntKind.i64 107] 43)
  have hown : RgsAt (w1.alloc (Obj.cells #[Value.int IntKind.i64 107, Value.int IntKind.i64 107] 43)) w1.heap.size (.slice (some ⟨w1.heap.size, 0, none⟩) 1 1) [⟨107, 107⟩] := own_cellsN w1 43 2 1 [Value.int IntKind.i64 107, Value.int IntKind.i64 107] rfl (by decide)
  have HT1 := Lib.hid (ht.below hba)
  have HB1 := Lib.hid (hb1.trans (hba.mono hb1.size))
  have HL1 := Lib.hid (RListAt.of_own hown)
  clear ht hb1 hba HLD hown
  go_wp2_with fail
  refine (HC.out _ _ _ HT1.out HB1.out HL1.out).mono ?_
  rintro e w2 ⟨v2, M, s, rfl, hp, hs, hr2, hM, hb2⟩
  obtain ⟨h1, h2⟩ := make_set hp hs
  have hj : joinAll s = kelvin := can_unique h1 kelvin_can fun r => (h2 r).trans (awake_set HK.out hM r)
  rw [hj] at hr2
  have hba := alloc_below w2 (Obj.cells #[Value.int IntKind.i64 75, Value.int IntKind.i64 75, Value.int IntKind.i64 107, Value.int IntKind.i64 107, Value.int IntKind.i64 8490, Value.int IntKind.i64 8490] 43)
  have hown : RgsAt (w2.alloc (Obj.cells #[Value.int IntKind.i64 75, Value.int IntKind.i64 75, Value.int IntKind.i64 107, Value.int IntKind.i64 107, Value.int IntKind.i64 8490, Value.int IntKind.i64 8490] 43)) w2.heap.size (.slice (some ⟨w2.heap.size, 0, none⟩) 3 3) kelvin := own_cellsN w2 43 2 3 [Value.int IntKind.i64 75, Value.int IntKind.i64 75, Value.int IntKind.i64 107, Value.int IntKind.i64 107, Value.int IntKind.i64 8490, Value.int IntKind.i64 8490] rfl (by decide)
  have HB2 := Lib.hid ((HB1.out.trans (hb2.mono HB1.out.size)).trans (hba.mono (Nat.le_trans HB1.out.size hb2.size)))
  have HE := Lib.hid (requal_walk (RListAt.below (RListAt.of_own hr2) hba) (RListAt.of_own hown))
  clear hp hs hr2 hM hb2 h1 h2 hj hba hown HT1 HB1 HL1 HC HK
  go_wp2_with fail
  refine HE.out.mono ?_
  rintro e w3 ⟨rfl, hb3⟩
  have HB3 := Lib.hid (HB2.out.trans (hb3.mono HB2.out.size))
  clear hb3 HE HB2
  go_wp2_with fail
  go_ret
  exact ⟨rfl, HB3.out⟩
set_option maxRecDepth 100000 in
theorem foldNobody_walk (a b : Int) (ha : (Lit.int .i64 a).wf = true) (hb : (Lit.int .i64 b).wf = true) (w : World) (hE : Env w) (hT : EnvT w) : Calls Tryd.prog 6 #[.int .i64 a, .int .i64 b] w fun e w' => e = .returned (.bool true) ∧ Below w.heap.size w w' := by
  have HA := Lib.hid (fun (W : World) (hb : Below w.heap.size w W) => awake9_walk W (hE.below hb) (hT.below hb))
  clear hE hT ha hb
  go_enter Tryd.func6, Tryd.ntmps6
  go_wp2
  obtain ⟨W1, hW1⟩ : ∃ W1, W1 = (w.alloc (Obj.cells #[Value.pointer none, Value.pointer none, Value.pointer none, Value.pointer none, Value.pointer none, Value.slice none 0 0, Value.slice none 0 0, Value.map none, Value.map none, Value.map none] 39)).alloc (Obj.cells #[Value.pointer none, Value.pointer (some { block := w.heap.size, off := 0 })] 22) := ⟨_, rfl⟩
  have hB1 : Below w.heap.size w W1 := by subst hW1; exact ((Below.refl _ _).alloc (Nat.le_refl _) _).alloc (by simp) _
  have c0 : W1.cell? ⟨w.heap.size + 1, 0, none⟩ = some (.pointer none) := by subst hW1; go_simp
  have c1 : W1.cell? ⟨w.heap.size + 1, 1, none⟩ = some (.pointer (some ⟨w.heap.size, 0, none⟩)) := by subst hW1; go_simp
  have c2 : W1.cell? ⟨w.heap.size, 7, none⟩ = some (.map none) := by subst hW1; go_simp
  rw [← hW1]
  have HB1 := Lib.hid hB1
  clear hW1 hB1
  go_loopw [11] (fun i wr => ∃ k : Nat, k ≤ 2 ∧ i = .int .i64 k ∧ Hid (Below W1.heap.size W1 wr)) (fun i _ => 2 - (intOf i).toNat)
  case atStart => exact ⟨0, by omega, rfl, Below.refl _ _⟩
  case round =>
    obtain ⟨k, hk, rfl, HB⟩ := hrel
    by_cases h2 : 2 ≤ k
    · have HBr := Lib.hid (HB1.out.trans (HB.out.mono HB1.out.size))
      clear c0 c1 c2 HB
      go_wp2_with fail
      refine (HA.out wr HBr.out).mono ?_
      rintro e w9 ⟨rfl, hb9⟩
      have HB9 := Lib.hid (HBr.out.trans (hb9.mono HBr.out.size))
      clear hb9 HBr
      go_wp2_with fail
      go_ret
      exact ⟨rfl, HB9.out⟩
    · have hx : ∃ p, wr.cell? ⟨w.heap.size + 1, k, none⟩ = some (.pointer p) ∧ TbNone wr p := by
        rcases (by omega : k = 0 ∨ k = 1) with rfl | rfl
        · exact ⟨_, cell_later HB.out c0, .inl rfl⟩
        · exact ⟨_, cell_later HB.out c1, .inr ⟨_, rfl, cell_later HB.out c2⟩⟩
      obtain ⟨p, hp, hn⟩ := hx
      have hlt : k < 2 := by omega
      have HN := Lib.hid hn
      clear c0 c1 c2 h2 hn
      go_wp2_with fail
      refine (simple_none HN.out _).mono ?_
      rintro e w5 ⟨rfl, rfl⟩
      go_wp2_with fail
      refine (full_none HN.out _).mono ?_
      rintro e w5 ⟨rfl, rfl⟩
      go_wp2_with fail
      refine (same_none HN.out _ _).mono ?_
      rintro e w5 ⟨rfl, hb5⟩
      have hba := alloc_below w5 (Obj.cells #[Value.int IntKind.i64 a, Value.int IntKind.i64 b] 43)
      have HN5 := Lib.hid ((HN.out.below hb5).below hba)
      have HB5 := Lib.hid ((HB.out.trans (hb5.mono HB.out.size)).trans (hba.mono (Nat.le_trans HB.out.size hb5.size)))
      clear hb5 hba HN HB hp
      go_wp2_with fail
      refine (closure_none HN5.out _).mono ?_
      rintro e w6 ⟨rfl, rfl⟩
      clear HN5
      go_wp2_with fail
      go_roundw
      case rel => exact ⟨k + 1, by omega, by go_num, HB5⟩
      case measure => simp [intOf]; omega
end Go.Proofs.YtmdkjljcnegmeaaDoor
