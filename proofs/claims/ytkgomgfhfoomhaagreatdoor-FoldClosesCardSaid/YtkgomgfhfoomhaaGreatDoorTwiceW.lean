/- A law's argument that is a slice of ranges, opened; rubricatorlaw09.FoldTwice answers true. -/
import Derived.Test.YtkgomgfhfoomhaaGreatDoorRef3Y
import Derived.Test.YtkgomgfhfoomhaaGreatDoorAwk9W
import Derived.Test.YtkgomgfhfoomhaaGreatDoorREq
import Derived.Test.YtkgomgfhfoomhaaGreatDoorOpen
namespace Go.Proofs.YtkgomgfhfoomhaaGreatDoor
open Go.RowKit Go.ChangeShapes Go.WideShapes Go.ChangeAt
set_option linter.unusedVariables false
set_option linter.unusedSimpArgs false

/-- A slice of ranges that is nil or has a place, as long as its room. -/
def RValC (w : World) (v : Value) (rs : List Rg) : Prop := RVal w v rs ∧ ∃ A c, v = .slice A rs.length c ∧ rs.length ≤ c ∧ (A = none → c = 0)
theorem add_none (a : Addr) : a.add 0 = a := by
  unfold Addr.add
  split <;> simp_all
set_option maxRecDepth 100000 in
theorem open_rgsV {H : Type} {enc : TypeId × Value → H} {w : World} {r : Reach} {base : Nat} {v : Value} {d : DataW H} {ps : List MemPlace} (hval : Value.okWide Tryz.prog w r base 44 v) (hd : DataW.Trod enc Tryz.prog w 0 (fun _ => true) true 44 v d ps) : ∃ rs, RValC w v rs := by
  obtain ⟨A, n, c, rfl⟩ := open_list Tryz.underlying44 hval
  obtain ⟨m, hm⟩ := hd
  rcases DataW.trod_slice Tryz.underlying44 hm with ⟨h, _⟩ | ⟨a, len, cap, elems, rest, fuel, _, h, _, _, hl, hc, hlen, hel, _, _⟩
  · have e : Value.slice A n c = .slice none 0 0 := by simpa [Value.cells] using h
    injection e with e1 e2 e3
    subst e1 e2 e3
    exact ⟨[], RVal.nil w, none, 0, rfl, Nat.le_refl _, fun _ => rfl⟩
  · have e : Value.slice A n c = .slice (some a) len cap := by simpa [Value.cells] using h
    injection e with e1 e2 e3
    subst e1 e2 e3
    unfold maxLen at hc
    have hc2 : Tryz.prog.cellsOf 48 = 2 := by kernel_rfl
    have hci : Tryz.prog.cellsOf 3 = 1 := by kernel_rfl
    have each : ∀ i, i < n → ∃ x : Rg, w.cell? (a.add (i * 2)) = some (.int .i64 x.lo) ∧ w.cell? ((a.add (i * 2)).add 1) = some (.int .i64 x.hi) := by
      intro i hi
      have h1 := hel i hi
      rw [List.getElem?_eq_getElem (by omega), Option.bind_eq_some_iff] at h1
      obtain ⟨cs, hcs, ht⟩ := h1
      obtain ⟨y0, y1, n', _, hl2, t0, t1⟩ := trod_struct2 Tryz.underlying48 ht
      obtain ⟨z0, e0, _⟩ := DataW.trod_int Tryz.underlying3 t0
      obtain ⟨z1, e1, _⟩ := DataW.trod_int Tryz.underlying3 t1
      have f0 : (cs.drop 0).take 1 = [.int .i64 z0] := by rw [← hci]; exact e0
      have f1 : (cs.drop 1).take 1 = [.int .i64 z1] := by rw [← hci]; exact e1
      rw [hc2] at hcs
      obtain ⟨_, hlc, hcell⟩ := World.cells?_some hcs
      match cs, hlc, f0, f1, hcell with
      | [u0, u1], _, f0, f1, hcell =>
        have g0 : u0 = .int .i64 z0 := by simpa using f0
        have g1 : u1 = .int .i64 z1 := by simpa using f1
        have k0 := hcell 0 (by omega)
        have k1 := hcell 1 (by omega)
        rw [add_none] at k0
        exact ⟨⟨z0, z1⟩, by rw [k0, g0]; rfl, by rw [k1, g1]; rfl⟩
    obtain ⟨f, hf⟩ : ∃ f : Nat → Rg, ∀ i, i < n → w.cell? (a.add (i * 2)) = some (.int .i64 (f i).lo) ∧ w.cell? ((a.add (i * 2)).add 1) = some (.int .i64 (f i).hi) := by
      refine ⟨fun i => if h : i < n then Classical.choose (each i h) else ⟨0, 0⟩, fun i hi => ?_⟩
      simp only [dif_pos hi]
      exact Classical.choose_spec (each i hi)
    have hrl : ((List.range n).map f).length = n := by simp
    refine ⟨(List.range n).map f, ⟨⟨some a, c, by rw [hrl], by rw [hrl]; omega, fun _ => ⟨a, rfl, fun j hj => ?_⟩⟩, .inr ⟨_, _, _, rfl⟩⟩, some a, c, by rw [hrl], by rw [hrl]; exact hl, fun h => by cases h⟩
    have hj' : j < n := by rw [hrl] at hj; exact hj
    have := hf j hj'
    simpa using this
theorem RVal.cut {w : World} {A : Option Addr} {n c k : Nat} {rs : List Rg} (h : RVal w (.slice A n c) rs) (hk : k ≤ n) : RVal w (.slice A k c) (rs.take k) := by
  obtain ⟨⟨A', c', e, hn, hz⟩, hf⟩ := h
  injection e with e1 e2 e3
  subst e1 e2 e3
  have ht : (rs.take k).length = k := by rw [List.length_take]; omega
  refine ⟨⟨A, c, by rw [ht], by omega, fun hp => ?_⟩, ?_⟩
  · obtain ⟨ad, h4, h5⟩ := hz (by omega)
    refine ⟨ad, h4, fun j hj => ?_⟩
    have := h5 j (by omega)
    simpa using this
  · rcases hf with h | ⟨ad, n', c', h⟩
    · injection h with h1 h2 h3
      subst h1 h3
      left
      congr 1
      omega
    · injection h with h1 h2 h3
      subst h1
      exact .inr ⟨ad, k, c, rfl⟩
theorem can_empty {L : List Rg} (hc : CanL L) (h : ∀ r, ¬ inSet L r) : L = [] := by
  cases L with
  | nil => rfl
  | cons x L => exact absurd ⟨x, List.mem_cons_self, Int.le_refl _, hc.2 x List.mem_cons_self⟩ (h x.lo)
set_option maxRecDepth 100000 in
set_option maxHeartbeats 1600000 in
theorem foldTwice_walk {v0 : Value} {rs0 : List Rg} (w : World) (hl0 : RValC w v0 rs0) (hE : Env w) (hT : EnvT w) : Calls Tryz.prog 9 #[v0] w fun e w' => e = .returned (.bool true) ∧ Below w.heap.size w w' := by
  have HLD := Lib.hid (load_calls w hE hT)
  have HA := Lib.hid (fun (W : World) (hb : Below w.heap.size w W) => awake9_walk W (hE.below hb) (hT.below hb))
  have HC := Lib.hid (fun (W : World) (m : Nat) (v : Value) (rs : List Rg) (ht : TabAt W m files) (hb : Below w.heap.size w W) (hl : RVal W v rs) (hn : rs.length ≤ 500000) => clof_walk ht (hE.below hb) hl.list hl.form hn)
  have Hset := Lib.hid files_settled
  generalize files = Φ at *
  clear hE hT
  obtain ⟨hv0, A, c, rfl, hac, hA⟩ := hl0
  obtain ⟨k, hk1, hk2⟩ : ∃ k : Nat, (if 30 < (rs0.length : Int) then 30 else (rs0.length : Int)) = k ∧ (k ≤ 30 ∧ k ≤ rs0.length) := by
    by_cases h : 30 < (rs0.length : Int)
    · exact ⟨30, by rw [if_pos h]; rfl, by omega⟩
    · exact ⟨rs0.length, by rw [if_neg h], by omega⟩
  have m2 : min (rs0.length : Int) 30 = k := by rw [← hk1]; split <;> omega
  have m3 : (if (rs0.length : Int) ≤ 30 then (rs0.length : Int) else 30) = k := by rw [← hk1]; split <;> split <;> omega
  have HAL := Lib.hid (hv0.cut hk2.2)
  obtain ⟨rs, hrs, hrl⟩ : ∃ rs : List Rg, rs = rs0.take k ∧ rs.length = k := ⟨_, rfl, by rw [List.length_take]; omega⟩
  rw [← hrs] at HAL
  have hln : rs0.length ≤ 9223372036854775807 := by
    obtain ⟨⟨_, _, _, h, _⟩, _⟩ := hv0
    exact h
  clear hv0 hrs hA
  subst hrl
  have hk30 := hk2.1
  go_enter Tryz.func9, Tryz.ntmps9
  go_wp2_with fail
  refine HLD.out.mono ?_
  rintro e w1 ⟨rfl, ht, hb1⟩
  have HT1 := Lib.hid ht
  have HB1 := Lib.hid hb1
  have HR1 := Lib.hid (HAL.out.below hb1)
  clear ht hb1 HLD HAL hk1 hk2 m2 m3
  go_wp2_with fail
  refine (HC.out _ _ _ rs HT1.out HB1.out HR1.out (by omega)).mono ?_
  intro e w2 hcl
  obtain ⟨v2, L, rfl, hr2, hcan, hset, hb2, hLl⟩ := closure_set2 Hset.out hcl
  have HT2 := Lib.hid (HT1.out.below hb2)
  have HB2 := Lib.hid (HB1.out.trans (hb2.mono HB1.out.size))
  have HR2 := Lib.hid (HR1.out.below hb2)
  have HL2 := Lib.hid (RVal.of_own hr2)
  have Hcan := Lib.hid hcan
  have HS := Lib.hid hset
  have hL3 : L.length ≤ 200030 := by omega
  obtain ⟨A2, c2, rfl⟩ := own_slice hr2
  clear hcl hb2 hr2 hcan hset HT1 HB1 HR1 hLl
  go_wp2_with fail
  refine (HC.out _ _ _ L HT2.out HB2.out HL2.out (by omega)).mono ?_
  intro e w3 hcl
  obtain ⟨v3, L3, rfl, hr3, hcan3, hset3, hb3, _⟩ := closure_set2 Hset.out hcl
  obtain rfl : L3 = L := can_unique hcan3 Hcan.out fun r => (hset3 r).trans (clo_twice Hset.out HS.out r)
  have HB3 := Lib.hid (HB2.out.trans (hb3.mono HB2.out.size))
  have HR3 := Lib.hid (HR2.out.below hb3)
  have HL3 := Lib.hid (HL2.out.below hb3)
  have HV3 := Lib.hid (RListAt.of_own hr3)
  obtain ⟨A3, c3, rfl⟩ := own_slice hr3
  clear hcl hb3 hr3 hcan3 hset3 HT2 HB2 HR2 HL2 HC
  go_wp2_with fail
  refine (requal_walk HV3.out HL3.out.list).mono ?_
  rintro e w4 ⟨rfl, hb4⟩
  have HB4 := Lib.hid (HB3.out.trans (hb4.mono HB3.out.size))
  have HR4 := Lib.hid (HR3.out.below hb4)
  have HL4 := Lib.hid (HL3.out.below hb4)
  clear hb4 HB3 HR3 HL3 HV3
  go_wp2_with fail
  refine (minus3_walk _ _ _ rs L3 HR4.out HL4.out (by omega) (by omega)).mono ?_
  rintro e w5 ⟨v5, L5, rfl, hr5, hcan5, hset5, _, hb5⟩
  obtain rfl : L5 = [] := can_empty hcan5 fun r hr => by
    obtain ⟨h0, h1, h2⟩ := (hset5 r).1 hr
    exact h2 (clo_has HS.out r h0 h1)
  have HB5 := Lib.hid (HB4.out.trans (hb5.mono HB4.out.size))
  have HL5 := Lib.hid (HL4.out.below hb5)
  obtain ⟨A5, c5, rfl⟩ := own_slice hr5
  clear hr5 hcan5 hset5 hb5 HB4 HR4 HL4
  simp only [List.length_nil]
  go_wp2_with fail
  refine (can3_walk _ _ L3 HL5.out Hcan.out (fun r hr => ((HS.out r).1 hr).1) (by omega)).mono ?_
  rintro e w6 ⟨rfl, hb6⟩
  have HB6 := Lib.hid (HB5.out.trans (hb6.mono HB5.out.size))
  clear hb6 HB5 HL5
  go_wp2_with fail
  refine (HA.out _ HB6.out).mono ?_
  rintro e w7 ⟨rfl, hb7⟩
  have HB7 := Lib.hid (HB6.out.trans (hb7.mono HB6.out.size))
  clear hb7
  go_wp2_with fail
  go_ret
  exact ⟨rfl, HB7.out⟩
end Go.Proofs.YtkgomgfhfoomhaaGreatDoor
