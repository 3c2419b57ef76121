/- rubricatorlaw10.ClusterWalks answers true. -/
import Derived.Test.YtmdkjljcnegmeaaDoorCluWalksW
namespace Go.Proofs.YtmdkjljcnegmeaaDoor
open Go.RowKit
set_option linter.unusedVariables false
set_option linter.unusedSimpArgs false

theorem ListAt.cut {w : World} {A : Option Addr} {n c k : Nat} {zs : List Int} (h : ListAt w (.slice A n c) zs) (hk : k ≤ n) (hl : zs.length = n) : ListAt w (.slice A k c) (zs.take k) := by
  obtain ⟨A', c', e, h2, h3⟩ := h
  injection e with e1 e2 e3
  subst e1 e3
  have ht : (zs.take k).length = k := by rw [List.length_take]; omega
  refine ⟨A, c, by rw [ht], by omega, fun hp => ?_⟩
  obtain ⟨ad, h4, h5⟩ := h3 (by omega)
  refine ⟨ad, h4, fun j u hu => h5 j u ?_⟩
  unfold intz at hu ⊢
  rw [List.map_take, List.getElem?_take] at hu
  split at hu
  · exact hu
  · cases hu
set_option maxRecDepth 100000 in
set_option maxHeartbeats 800000 in
theorem walks_body (A : Option Addr) (n c k : Nat) (zs : List Int) (w : World) (hk : (n ≤ 60 ∧ k = n) ∨ (60 < n ∧ k = 60)) (hc : n ≤ c) (hn : n ≤ 9223372036854775807) (hz : ListAt w (.slice A k c) zs) (hl : zs.length = k) (hE : Env w) (hT : EnvT w) :
    Calls Tryd.prog 7 #[.slice A n c] w fun e w' => e = .returned (.bool true) ∧ Below w.heap.size w w' := by
  have HLD := Lib.hid (load_calls w hE hT)
  have HA := Lib.hid (fun (W : World) (hb : Below w.heap.size w W) => awake10_walk W (hE.below hb) (hT.below hb))
  have HEd := Lib.hid (fun (W : World) (m : Nat) (v : Value) (ht : TabAt W m files) (hl : ListAt W v zs) (p : Int) (hp : (Lit.int .i64 p).wf = true) => edgef_walk ht hl p hp)
  have HNx := Lib.hid (fun (W : World) (m : Nat) (v : Value) (ht : TabAt W m files) (hl : ListAt W v zs) (p : Int) (hp : 0 ≤ p ∧ p < zs.length) => next_walk ht hl p hp)
  have Hsp := Lib.hid (fun (p : Int) (h0 : 0 < zs.length) (hp : p ≤ zs.length) => nextAt_spec (Φ := files) (zs := zs) h0 hp)
  have HZ := Lib.hid hz
  have Hl := Lib.hid hl
  have hk60 : k ≤ 60 ∧ k ≤ n := by omega
  have m1 : (if (n : Int) ≤ 60 then (n : Int) else 60) = k := by split <;> omega
  have m2 : min (n : Int) 60 = k := by omega
  generalize files = Φ at *
  clear hE hT hz hl
  go_enter Tryd.func7, Tryd.ntmps7
  go_wp2_with fail
  refine HLD.out.mono ?_
  rintro e w1 ⟨rfl, ht, hb1⟩
  have HT1 := Lib.hid ht
  have HB1 := Lib.hid hb1
  have HZ1 := Lib.hid (HZ.out.below hb1)
  clear ht hb1 HLD HZ hk
  go_wp2_with fail
  go_loopw [4] (fun x wr => ∃ q : Int, 0 ≤ q ∧ q ≤ k ∧ x = .int .i64 q ∧ Hid (Below w1.heap.size w1 wr)) (fun x _ => ((k : Int) + 1 - intOf x).toNat)
  case atStart => exact ⟨0, by omega, by omega, rfl, Below.refl _ _⟩
  case round =>
    obtain ⟨q, hq1, hq2, rfl, HB⟩ := hrel
    have HTr := Lib.hid (HT1.out.below HB.out)
    have HZr := Lib.hid (HZ1.out.below HB.out)
    by_cases hlt : q < k
    · obtain ⟨s1, s2, s3, s4⟩ := Hsp.out (q + 1) (by rw [Hl.out]; omega) (by rw [Hl.out]; omega)
      have hnx := HNx.out wr _ _ HTr.out HZr.out q (by rw [Hl.out]; omega)
      rw [Hl.out] at s2
      generalize nextAt Φ zs (q + 1) = nx at *
      have HNX := Lib.hid hnx
      have S3 := Lib.hid s3
      have S4 := Lib.hid s4
      have d1 : decide (nx ≤ q) = false := by simp; omega
      have d2 : decide (nx > (k : Int)) = false := by simp; omega
      have b1 : IntKind.i64.wrap (q + 1) = q + 1 := by rw [IntKind.wrap_i64]; omega
      clear hnx s3 s4
      go_wp2_with fail
      refine HNX.out.mono ?_
      rintro e w2 ⟨rfl, hb2⟩
      have HT2 := Lib.hid (HTr.out.below hb2)
      have HZ2 := Lib.hid (HZr.out.below hb2)
      have HB2 := Lib.hid (HB.out.trans (hb2.mono HB.out.size))
      clear hb2 HNX HTr HZr HB
      go_wp2_with fail
      refine (HEd.out w2 _ _ HT2.out HZ2.out nx (wf_i64 (by omega) (by omega))).mono ?_
      rintro e w3 ⟨rfl, hb3⟩
      rw [S3.out]
      have HT3 := Lib.hid (HT2.out.below hb3)
      have HZ3 := Lib.hid (HZ2.out.below hb3)
      have HB3 := Lib.hid (HB2.out.trans (hb3.mono HB2.out.size))
      clear hb3 HT2 HZ2 HB2
      go_wp2_with fail
      go_loopw [6] (fun x w6 => ∃ i : Int, q + 1 ≤ i ∧ i ≤ nx ∧ x = .int .i64 i ∧ Hid (Below w3.heap.size w3 w6)) (fun x _ => (nx + 1 - intOf x).toNat)
      case atStart => exact ⟨q + 1, by omega, by omega, rfl, Below.refl _ _⟩
      case round =>
        obtain ⟨i, hi1, hi2, rfl, HBi⟩ := hrel
        by_cases hin : i < nx
        · have b2 : IntKind.i64.wrap (i + 1) = i + 1 := by rw [IntKind.wrap_i64]; omega
          go_wp2_with fail
          refine (HEd.out _ _ _ (HT3.out.below HBi.out) (HZ3.out.below HBi.out) i (wf_i64 (by omega) (by omega))).mono ?_
          rintro e w7 ⟨rfl, hb7⟩
          rw [S4.out i (by omega) hin]
          have HB7 := Lib.hid (HBi.out.trans (hb7.mono HBi.out.size))
          clear hb7 HBi
          go_wp2_with fail
          go_roundw
          case rel => exact ⟨i + 1, by omega, by omega, rfl, HB7⟩
          case measure => simp [intOf]; omega
        · have hie : i = nx := by omega
          subst hie
          have HB8 := Lib.hid (HB3.out.trans (HBi.out.mono HB3.out.size))
          clear HBi HT3 HZ3 HB3
          go_wp2_with fail
          go_roundw
          case rel => exact ⟨i, by omega, by omega, rfl, HB8⟩
          case measure => simp [intOf]; omega
    · have hqe : q = k := by omega
      subst hqe
      have HB9 := Lib.hid (HB1.out.trans (HB.out.mono HB1.out.size))
      clear HTr HZr HB
      go_wp2_with fail
      refine (HA.out wr HB9.out).mono ?_
      rintro e w9 ⟨rfl, hb9⟩
      have HB10 := Lib.hid (HB9.out.trans (hb9.mono HB9.out.size))
      clear hb9
      go_wp2_with fail
      go_ret
      exact ⟨rfl, HB10.out⟩
theorem clusterWalks_walk (w : World) (A : Option Addr) (n c : Nat) (zs : List Int) (hz : ListAt w (.slice A n c) zs) (hc : n ≤ c) (hl : zs.length = n) (hE : Env w) (hT : EnvT w) :
    Calls Tryd.prog 7 #[.slice A n c] w fun e w' => e = .returned (.bool true) ∧ Below w.heap.size w w' := by
  have hn : n ≤ 9223372036854775807 := by
    obtain ⟨_, _, e, h2, _⟩ := hz
    injection e with e1 e2 e3
    omega
  by_cases h : n ≤ 60
  · exact walks_body A n c n zs _ (.inl ⟨h, rfl⟩) hc hn hz hl hE hT
  · exact walks_body A n c 60 (zs.take 60) _ (.inr ⟨by omega, rfl⟩) hc hn (hz.cut (by omega) hl) (by rw [List.length_take]; omega) hE hT
end Go.Proofs.YtmdkjljcnegmeaaDoor
