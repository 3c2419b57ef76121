/- cluster.Next; rubricatorlaw10.ClusterWalks answers true. -/
import Derived.Test.YtkgomgfhfoomhaaGreatDoorCluAw
namespace Go.Proofs.YtkgomgfhfoomhaaGreatDoor
open Go.RowKit
set_option linter.unusedVariables false
set_option linter.unusedSimpArgs false

def nextTo (E : Int → Bool) : Nat → Int → Int
  | 0, p => p
  | n + 1, p => if E p then p else nextTo E n (p + 1)
theorem nextTo_spec {E : Int → Bool} {len : Int} (hE : E len = true) : ∀ (n : Nat) (p : Int), p + n = len → p ≤ nextTo E n p ∧ nextTo E n p ≤ len ∧ E (nextTo E n p) = true ∧ ∀ i, p ≤ i → i < nextTo E n p → E i = false
  | 0, p, h => by
    have : p = len := by omega
    subst this
    unfold nextTo
    exact ⟨Int.le_refl _, Int.le_refl _, hE, fun i h1 h2 => absurd h2 (by omega)⟩
  | n + 1, p, h => by
    unfold nextTo
    cases he : E p with
    | true =>
      simp only [if_true]
      exact ⟨Int.le_refl _, by omega, he, fun i h1 h2 => absurd h2 (by omega)⟩
    | false =>
      simp only [Bool.false_eq_true, if_false]
      obtain ⟨h1, h2, h3, h4⟩ := nextTo_spec hE n (p + 1) (by omega)
      refine ⟨by omega, h2, h3, fun i hi1 hi2 => ?_⟩
      by_cases e : i = p
      · rw [e]; exact he
      · exact h4 i (by omega) hi2
/-- The first edge from a place on. -/
def nextAt (Φ : Files) (zs : List Int) (p : Int) : Int := nextTo (edgeOf Φ zs) ((zs.length : Int) - p).toNat p
theorem edge_len {Φ : Files} {zs : List Int} (h : 0 < zs.length) : edgeOf Φ zs zs.length = true := by
  unfold edgeOf
  rw [if_neg (by omega), if_pos (.inr rfl)]
theorem nextAt_spec {Φ : Files} {zs : List Int} {p : Int} (h0 : 0 < zs.length) (hp : p ≤ zs.length) : p ≤ nextAt Φ zs p ∧ nextAt Φ zs p ≤ zs.length ∧ edgeOf Φ zs (nextAt Φ zs p) = true ∧ ∀ i, p ≤ i → i < nextAt Φ zs p → edgeOf Φ zs i = false :=
  nextTo_spec (edge_len h0) _ _ (by omega)
theorem nextAt_same {Φ : Files} {zs : List Int} {p : Int} (h : edgeOf Φ zs p = true) : nextAt Φ zs p = p := by
  unfold nextAt
  cases ((zs.length : Int) - p).toNat with
  | zero => rfl
  | succ n => rw [nextTo, if_pos h]
theorem nextAt_more {Φ : Files} {zs : List Int} {p : Int} (h : edgeOf Φ zs p = false) (hp : p < zs.length) : nextAt Φ zs p = nextAt Φ zs (p + 1) := by
  unfold nextAt
  obtain ⟨n, hn⟩ : ∃ n : Nat, (zs.length : Int) - p = n + 1 := ⟨((zs.length : Int) - p - 1).toNat, by omega⟩
  rw [show ((zs.length : Int) - p).toNat = n + 1 by omega, show ((zs.length : Int) - (p + 1)).toNat = n by omega, nextTo, h, if_neg (by decide)]
set_option maxRecDepth 100000 in
theorem next_walk {w : World} {m : Nat} {zs : List Int} {v : Value} (ht : TabAt w m files) (hl : ListAt w v zs) (p : Int) (hp : 0 ≤ p ∧ p < zs.length) :
    Calls Tryz.prog 24 #[.pointer (some ⟨m + 3, 0, none⟩), v, .int .i64 p] w fun e w' => e = .returned (.int .i64 (nextAt files zs (p + 1))) ∧ Below w.heap.size w w' := by
  have hcw := category_walk ht files_ok 0
  have hcs : (⟨(txOf files.cat 0 [67, 110]).toArray⟩ : ByteArray).toList.isEmpty = false := by
    rw [show (⟨(txOf files.cat 0 [67, 110]).toArray⟩ : ByteArray).toList = txOf files.cat 0 [67, 110] from toBl _]
    exact List.isEmpty_eq_false_iff.2 (txOf_ne files_cat 0 (by decide))
  generalize (⟨(txOf files.cat 0 [67, 110]).toArray⟩ : ByteArray) = cs at *
  have HEd := Lib.hid (fun (W : World) (v : Value) (ht : TabAt W m files) (hl : ListAt W v zs) (p : Int) (hp : (Lit.int .i64 p).wf = true) => edgef_walk ht hl p hp)
  have HCW := Lib.hid hcw
  have HT := Lib.hid ht
  have HL := Lib.hid hl
  generalize files = Φ at *
  obtain ⟨A, c, rfl, hn, _⟩ := hl
  have d1 : decide (p < 0) = false := by simp; omega
  have d2 : decide (p ≥ (zs.length : Int)) = false := by simp; omega
  have b1 : IntKind.i64.wrap (p + 1) = p + 1 := by rw [IntKind.wrap_i64]; omega
  clear hcw ht
  go_enter Tryz.func24, Tryz.ntmps24
  go_wp2_with fail
  refine HCW.out.mono ?_
  rintro e w1 ⟨rfl, hb1⟩
  have HT1 := Lib.hid (HT.out.below hb1)
  have HL1 := Lib.hid (HL.out.below hb1)
  have HB1 := Lib.hid hb1
  clear hb1 HCW HT HL
  go_wp2_with fail
  go_loopw [2] (fun x wr => ∃ q : Int, p + 1 ≤ q ∧ q ≤ zs.length ∧ x = .int .i64 q ∧ nextAt Φ zs (p + 1) = nextAt Φ zs q ∧ Hid (Below w1.heap.size w1 wr)) (fun x _ => ((zs.length : Int) + 1 - intOf x).toNat)
  case atStart => exact ⟨p + 1, by omega, by omega, rfl, rfl, Below.refl _ _⟩
  case round =>
    obtain ⟨q, hq1, hq2, rfl, hsk, HB⟩ := hrel
    have Hsk := Lib.hid hsk
    clear hsk
    go_wp2_with fail
    refine (HEd.out wr _ (HT1.out.below HB.out) (HL1.out.below HB.out) q (wf_i64 (by omega) (by omega))).mono ?_
    rintro e w2 ⟨rfl, hb2⟩
    have HB2 := Lib.hid (HB.out.trans (hb2.mono HB.out.size))
    clear hb2 HB
    cases he : edgeOf Φ zs q with
    | true =>
      have hfin : nextAt Φ zs (p + 1) = q := by rw [Hsk.out, nextAt_same he]
      have Hfin := Lib.hid hfin
      have HB3 := Lib.hid (HB1.out.trans (HB2.out.mono HB1.out.size))
      clear he hfin
      go_wp2_with fail
      go_ret
      refine ⟨?_, HB3.out⟩
      rw [Hfin.out]
      rfl
    | false =>
      have hq3 : q < zs.length := by
        rcases Int.lt_or_le q zs.length with h | h
        · exact h
        · have : q = zs.length := by omega
          rw [this, edge_len (by omega)] at he
          cases he
      have hmore : nextAt Φ zs (p + 1) = nextAt Φ zs (q + 1) := by rw [Hsk.out, nextAt_more he hq3]
      have Hmore := Lib.hid hmore
      have b2 : IntKind.i64.wrap (q + 1) = q + 1 := by rw [IntKind.wrap_i64]; omega
      clear he hmore
      go_wp2_with fail
      go_roundw
      case rel => exact ⟨q + 1, by omega, by omega, rfl, Hmore.out, HB2⟩
      case measure => simp [intOf]; omega
end Go.Proofs.YtkgomgfhfoomhaaGreatDoor
