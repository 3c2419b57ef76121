/- rubricatorlaw10: awake; ClusterNobody answers true. -/
import Derived.Test.YtmdkjljcnegmeaaDoorNoneW
import Derived.Test.YtmdkjljcnegmeaaDoorCluE
import Derived.Test.YtmdkjljcnegmeaaDoorDecLawW
namespace Go.Proofs.YtmdkjljcnegmeaaDoor
open Go.RowKit
set_option linter.unusedVariables false
set_option linter.unusedSimpArgs false

set_option maxRecDepth 100000 in
theorem edge_none (w : World) (p : Option Addr) (h : TbNone w p) (A : Option Addr) (n c : Nat) (q : Int) : Calls Tryd.prog 18 #[.pointer p, .slice A n c, .int .i64 q] w fun e w' => e = .returned (.bool false) ∧ Below w.heap.size w w' := by
  have hb1 := alloc_below w (.cells #[.pointer p] 22)
  have hb2 := alloc_below (w.alloc (.cells #[.pointer p] 22)) (.cells #[.slice A n c] 25)
  have h2 := (h.below hb1).below hb2
  have HB := Lib.hid (hb1.trans (hb2.mono hb1.size))
  have HC := Lib.hid (category_none _ _ h2 0)
  clear hb1 hb2 h2 h
  go_enter Tryd.func18, Tryd.ntmps18
  go_wp2_with (go_at_call 32; refine HC.out.mono ?_; rintro e w' ⟨rfl, rfl⟩)
  go_ret
  exact ⟨rfl, HB.out⟩
theorem next_none (w : World) (p : Option Addr) (h : TbNone w p) (v : Value) (q : Int) : Calls Tryd.prog 17 #[.pointer p, v, .int .i64 q] w fun e w' => e = .returned (.int .i64 0) ∧ w = w' := by
  have HC := Lib.hid (category_none _ _ h 0)
  clear h
  go_enter Tryd.func17, Tryd.ntmps17
  go_wp2_with (go_at_call 32; refine HC.out.mono ?_; rintro e w' ⟨rfl, rfl⟩)
  go_ret
  exact ⟨rfl, rfl⟩
def kindsB (f : Func) : Bool := Nat.beq (kindN (txOf (recsOf f) 101 [])) 0 && Nat.beq (kindN (txOf (recsOf f) 769 [])) 4
theorem kinds_awake : kindsB Tryd.f24 = true := by kernel_rfl
theorem edge0 (Φ : Files) : edgeOf Φ [101, 769] 0 = true := by unfold edgeOf; simp
theorem edge2 (Φ : Files) : edgeOf Φ [101, 769] 2 = true := by unfold edgeOf; simp
theorem edge1_of {Φ : Files} (h1 : kindN (txOf Φ.clu 101 []) = 0) (h2 : kindN (txOf Φ.clu 769 []) = 4) : edgeOf Φ [101, 769] 1 = false := by
  have a : ofK Φ [101, 769] (1 - 1) = 0 := by
    show kindN (cluOf Φ 101) = 0
    unfold cluOf
    rw [if_neg (by decide)]
    exact h1
  have b : ofK Φ [101, 769] 1 = 4 := by
    show kindN (cluOf Φ 769) = 4
    unfold cluOf
    rw [if_neg (by decide)]
    exact h2
  unfold edgeOf
  rw [if_neg (by decide), if_neg (by decide), a, b]
  unfold edgeMid
  rfl
set_option maxRecDepth 100000 in
theorem edge1 : edgeOf files [101, 769] 1 = false := by
  have h : kindsB Tryd.f24 = true := kinds_awake
  unfold kindsB at h
  simp only [Bool.and_eq_true] at h
  exact edge1_of (Nat.eq_of_beq_eq_true h.1) (Nat.eq_of_beq_eq_true h.2)
theorem edgef_walk {w : World} {m : Nat} {zs : List Int} {v : Value} (ht : TabAt w m files) (hl : ListAt w v zs) (p : Int) (hp : (Lit.int .i64 p).wf = true) :
    Calls Tryd.prog 18 #[.pointer (some ⟨m + 3, 0, none⟩), v, .int .i64 p] w fun e w' => e = .returned (.bool (edgeOf files zs p)) ∧ Below w.heap.size w w' :=
  edge_walk ht files_ok (txOf_ne files_cat 0 (by decide)) hl p hp
set_option maxRecDepth 100000 in
theorem awake10_walk (w : World) (hE : Env w) (hT : EnvT w) : Calls Tryd.prog 19 #[] w fun e w' => e = .returned (.bool true) ∧ Below w.heap.size w w' := by
  have HLD := Lib.hid (load_calls w hE hT)
  have HEd := Lib.hid (fun (W : World) (m : Nat) (v : Value) (ht : TabAt W m files) (hl : ListAt W v [101, 769]) (p : Int) (hp : (Lit.int .i64 p).wf = true) => edgef_walk ht hl p hp)
  have he0 := Lib.hid (edge0 files)
  have he1 := Lib.hid edge1
  have he2 := Lib.hid (edge2 files)
  generalize files = Φ at *
  clear hE hT
  go_enter Tryd.func19, Tryd.ntmps19
  go_wp2_with fail
  refine HLD.out.mono ?_
  rintro e w1 ⟨rfl, ht, hb1⟩
  have hba := alloc_below w1 (Obj.cells #[Value.int IntKind.i64 101, Value.int IntKind.i64 769] 3)
  have HT1 := Lib.hid (ht.below hba)
  have HB1 := Lib.hid (hb1.trans (hba.mono hb1.size))
  have HL1 := Lib.hid (ListAt.of_own (zs := [101, 769]) (own_fresh2 w1 3 (Value.int .i64 101) (Value.int .i64 769)))
  clear ht hb1 hba HLD
  go_wp2_with fail
  refine (HEd.out _ _ _ HT1.out HL1.out 0 (by decide)).mono ?_
  rintro e w2 ⟨rfl, hb2⟩
  rw [he0.out]
  have HT2 := Lib.hid (HT1.out.below hb2)
  have HL2 := Lib.hid (HL1.out.below hb2)
  have HB2 := Lib.hid (HB1.out.trans (hb2.mono HB1.out.size))
  clear hb2 HT1 HL1 HB1
  go_wp2_with fail
  refine (HEd.out _ _ _ HT2.out HL2.out 1 (by decide)).mono ?_
  rintro e w3 ⟨rfl, hb3⟩
  rw [he1.out]
  have HT3 := Lib.hid (HT2.out.below hb3)
  have HL3 := Lib.hid (HL2.out.below hb3)
  have HB3 := Lib.hid (HB2.out.trans (hb3.mono HB2.out.size))
  clear hb3 HT2 HL2 HB2
  go_wp2_with fail
  refine (HEd.out _ _ _ HT3.out HL3.out 2 (by decide)).mono ?_
  rintro e w4 ⟨rfl, hb4⟩
  rw [he2.out]
  have HB4 := Lib.hid (HB3.out.trans (hb4.mono HB3.out.size))
  clear hb4 HT3 HL3 HB3
  go_wp2_with fail
  go_ret
  exact ⟨rfl, HB4.out⟩
set_option maxRecDepth 100000 in
theorem clusterNobody_walk (A : Option Addr) (n c : Nat) (q : Int) (w : World) (hE : Env w) (hT : EnvT w) : Calls Tryd.prog 8 #[.slice A n c, .int .i64 q] w fun e w' => e = .returned (.bool true) ∧ Below w.heap.size w w' := by
  have HA := Lib.hid (fun (W : World) (hb : Below w.heap.size w W) => awake10_walk W (hE.below hb) (hT.below hb))
  clear hE hT
  go_enter Tryd.func8, Tryd.ntmps8
  go_wp2
  obtain ⟨W1, hW1⟩ : ∃ W1, W1 = (w.alloc (Obj.cells #[Value.pointer none, Value.pointer none, Value.pointer none, Value.pointer none, Value.pointer none, Value.slice none 0 0, Value.slice none 0 0, Value.map none, Value.map none, Value.map none] 39)).alloc (Obj.cells #[Value.pointer none, Value.pointer (some { block := w.heap.size, off := 0 })] 22) := ⟨_, rfl⟩
  have hB1 : Below w.heap.size w W1 := by subst hW1; exact ((Below.refl _ _).alloc (Nat.le_refl _) _).alloc (by simp) _
  have hs1 : W1.heap.size = w.heap.size + 2 := by subst hW1; simp
  have c0 : W1.cell? ⟨w.heap.size + 1, 0, none⟩ = some (.pointer none) := by subst hW1; go_simp
  have c1 : W1.cell? ⟨w.heap.size + 1, 1, none⟩ = some (.pointer (some ⟨w.heap.size, 0, none⟩)) := by subst hW1; go_simp
  have c2 : W1.cell? ⟨w.heap.size, 7, none⟩ = some (.map none) := by subst hW1; go_simp
  rw [← hW1]
  have HB1 := Lib.hid hB1
  clear hW1 hB1
  go_loopw [11] (fun i wr => ∃ k : Nat, k ≤ 2 ∧ i = .int .i64 k ∧ Hid (Below W1.heap.size W1 wr)) (fun i _ => 2 - (intOf i).toNat)
  case atStart => exact ⟨0, by omega, rfl, Below.refl _ _⟩
  case round =>
    obtain ⟨k, hk, rfl, HB⟩ := hrel
    by_cases h2 : 2 ≤ k
    · have HBr := Lib.hid (HB1.out.trans (HB.out.mono HB1.out.size))
      clear c0 c1 c2 HB
      go_wp2_with fail
      refine (HA.out wr HBr.out).mono ?_
      rintro e w9 ⟨rfl, hb9⟩
      have HB9 := Lib.hid (HBr.out.trans (hb9.mono HBr.out.size))
      clear hb9 HBr
      go_wp2_with fail
      go_ret
      exact ⟨rfl, HB9.out⟩
    · have hx : ∃ p, wr.cell? ⟨w.heap.size + 1, k, none⟩ = some (.pointer p) ∧ TbNone wr p := by
        rcases (by omega : k = 0 ∨ k = 1) with rfl | rfl
        · exact ⟨_, cell_later HB.out c0, .inl rfl⟩
        · exact ⟨_, cell_later HB.out c1, .inr ⟨_, rfl, cell_later HB.out c2⟩⟩
      obtain ⟨p, hp, hn⟩ := hx
      have hlt : k < 2 := by omega
      have HN := Lib.hid hn
      clear c0 c1 c2 h2 hn
      go_wp2_with fail
      refine (edge_none _ _ HN.out _ _ _ _).mono ?_
      rintro e w5 ⟨rfl, hb5⟩
      have HN5 := Lib.hid (HN.out.below hb5)
      have HB5 := Lib.hid (HB.out.trans (hb5.mono HB.out.size))
      clear hb5 HN HB hp
      go_wp2_with fail
      refine (next_none _ _ HN5.out _ _).mono ?_
      rintro e w6 ⟨rfl, rfl⟩
      clear HN5
      go_wp2_with fail
      go_roundw
      case rel => exact ⟨k + 1, by omega, by go_num, HB5⟩
      case measure => simp [intOf]; omega
end Go.Proofs.YtmdkjljcnegmeaaDoor
