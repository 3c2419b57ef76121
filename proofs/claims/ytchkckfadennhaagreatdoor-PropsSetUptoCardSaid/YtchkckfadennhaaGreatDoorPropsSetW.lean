/- rubricatorlaw06.PropsSet answers true. -/
import Derived.Test.YtchkckfadennhaaGreatDoorEqR
import Derived.Test.YtchkckfadennhaaGreatDoorPropsNamesW
import Derived.Test.YtchkckfadennhaaGreatDoorRef6T
namespace Go.Proofs.YtchkckfadennhaaGreatDoor
open Go.RowKit Go.Maps
set_option linter.unusedVariables false
set_option linter.unusedSimpArgs false

set_option maxRecDepth 100000 in
theorem propsSet_walk (s : ByteArray) (w : World) (hs : s.size ≤ 2000000) (hE : Env w) (hT : EnvT w) : Calls Tryz.prog 5 #[.string s] w fun e w' => e = .returned (.bool true) ∧ Below w.heap.size w w' := by
  obtain ⟨l, hl⟩ : ∃ l : Sp.Str, s = ⟨l.toArray⟩ := ⟨s.data.toList, by simp⟩
  subst hl
  have hll : l.length ≤ 2000000 := by rw [toB_size] at hs; exact hs
  have HLD := Lib.hid (load_calls w hE hT)
  have HA := Lib.hid (fun (W : World) (hb : Below w.heap.size w W) => awake06_walk W (hE.below hb) (hT.below hb))
  have HS := Lib.hid (fun (W : World) (m : Nat) (ht : TabAt W m files) (hb : Below w.heap.size w W) => set_walk ht (hE.below hb) l hll)
  have HS2 := Lib.hid (fun (W : World) (B b : Nat) (ht : RefAt W B b files) => setR_walk ht l hll)
  have HLR := Lib.hid (fun (W : World) => ref_load W)
  have Hin := Lib.hid (fun (k : Int) (v : Sp.Str) (r : Int) (h : propSet files k v r) => propN_in h)
  obtain ⟨x, hx⟩ : ∃ x, x = Sp.resolve names l := ⟨_, rfl⟩
  rw [← hx] at HS HS2
  obtain ⟨k, v, e⟩ := x
  simp only at HS HS2
  have e1 : (e == e) = true := beq_self_eq_true _
  generalize (⟨l.toArray⟩ : ByteArray) = LB at *
  generalize files = Φ at *
  clear hE hT hx hs
  go_enter Tryz.func5, Tryz.ntmps5
  go_wp2_with fail
  refine HLD.out.mono ?_
  rintro e' w1 ⟨rfl, ht, hb1⟩
  have HT1 := Lib.hid ht
  have HB1 := Lib.hid hb1
  clear ht hb1 HLD
  go_wp2_with fail
  refine (HS.out w1 _ HT1.out HB1.out).mono ?_
  rintro e' w2 ⟨u2, L2, rfl, hL2, hcan2, hset2, hb2⟩
  have HB2 := Lib.hid (HB1.out.trans (hb2.mono HB1.out.size))
  have HL2 := Lib.hid hL2
  have hl2 := can_few hcan2 (fun r hr => Hin.out _ _ r ((hset2 r).1 hr).2)
  have Hc2 := Lib.hid hcan2
  have Hs2 := Lib.hid hset2
  obtain ⟨A2, k2, rfl⟩ := own_slice hL2
  clear hb2 HT1 HB1 hL2 hcan2 hset2 HS
  go_wp2_with fail
  refine (HLR.out w2).mono ?_
  rintro e' w3 ⟨b, rfl, hr3, hb3⟩
  have HR3 := Lib.hid hr3
  have HB3 := Lib.hid (HB2.out.trans (hb3.mono HB2.out.size))
  have HL3 := Lib.hid (own_below HL2.out hb3)
  clear hr3 hb3 HB2 HL2 HLR
  go_wp2_with fail
  refine (HS2.out w3 _ _ HR3.out).mono ?_
  rintro e' w4 ⟨u4, L4, rfl, hL4, hcan4, hset4, hb4⟩
  have heq : L4 = L2 := can_unique hcan4 Hc2.out fun r => by rw [hset4 r, Hs2.out r]
  subst heq
  have HB4 := Lib.hid (HB3.out.trans (hb4.mono HB3.out.size))
  have HL4 := Lib.hid hL4
  have HL34 := Lib.hid (own_below HL3.out hb4)
  obtain ⟨A4, k4, rfl⟩ := own_slice hL4
  clear hb4 HR3 HB3 HL3 hL4 hcan4 hset4 Hc2 Hs2 HS2
  go_wp2_with fail
  refine (equalR_walk HL34.out HL4.out hl2).mono ?_
  rintro e' w5 ⟨rfl, hb5⟩
  have HB5 := Lib.hid (HB4.out.trans (hb5.mono HB4.out.size))
  clear hb5 HB4 HL4 HL34
  go_wp2_with fail
  refine (HA.out w5 HB5.out).mono ?_
  rintro e' w6 ⟨rfl, hb6⟩
  have HB6 := Lib.hid (HB5.out.trans (hb6.mono HB5.out.size))
  clear hb6 HB5
  go_wp2_with fail
  go_ret
  exact ⟨rfl, HB6.out⟩
end Go.Proofs.YtchkckfadennhaaGreatDoor
