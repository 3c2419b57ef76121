/- slices.Repeat of one code point; rubricatorlaw10.ClusterFlags answers true. -/
import Derived.Test.YtgdpfjipgmfjfabDoorCluP
import Derived.Test.YtgdpfjipgmfjfabDoorOpen
import Derived.Test.YtgdpfjipgmfjfabDoorCluAw
import Derived.Test.YtgdpfjipgmfjfabDoorDagG
import Derived.Deep.DeepCutAuto
import Derived.Laws.CopyOwn
import Derived.Deep.RegionLaw
namespace Go.Proofs.YtgdpfjipgmfjfabDoor
open Go.RowKit
set_option linter.unusedVariables false
set_option linter.unusedSimpArgs false

set_option maxRecDepth 100000 in
set_option maxHeartbeats 1600000 in
theorem repeat_walk {w : World} {g : Nat} (z : Int) (n : Nat) (hc : w.cell? ⟨g, 0, none⟩ = some (.int .i64 z)) (h0 : 0 < n) (hn : n ≤ 12) :
    Calls Tryd.prog 10 #[.slice (some ⟨g, 0, none⟩) 1 1, .int .i64 n] w (CloneSaid (List.replicate n z) w) := by
  go_enter Tryd.func10, Tryd.ntmps10
  have e1 : (((1 * n / 18446744073709551616 : Nat) : Int)) = 0 := by rw [Nat.one_mul, Nat.div_eq_of_lt (by omega)]; rfl
  have e2 : (((1 * n % 18446744073709551616 : Nat) : Int)) = (n : Int) := by rw [Nat.one_mul, Nat.mod_eq_of_lt (by omega)]
  have d2 : decide ((n : Int) > 9223372036854775807) = false := by rw [decide_eq_false_iff_not]; omega
  have HM := Lib.hid (Tryd.bits_Mul 1 n (by decide) (by omega))
  go_wp2_with fail
  refine (HM.out _).mono ?_
  rintro e w1 ⟨rfl, rfl⟩
  rw [e1, e2]
  clear e1 e2 HM
  have hmk : ∀ W : World, (Instr.makeSlice 22 (.int .i64 n) (.int .i64 n)).run Tryd.prog W = .ok (.slice (some ⟨W.heap.size, 0, none⟩) n n) (W.alloc (.cells (madeCells #[.int .i64 0] n) 3)) := fun W => run_make_row' 22 3 (.int .i64 0) 8 Tryd.underlying22 (by kernel_rfl) rfl .i64 .i64 n (by omega) (by omega) W
  obtain ⟨Z, hZ⟩ : ∃ Z : List Value, Z = List.replicate n (.int .i64 0) := ⟨_, rfl⟩
  have hZl : Z.length = n := by rw [hZ, List.length_replicate]
  have hZm : madeCells #[.int .i64 0] n = Z.toArray := by rw [← Array.toList_inj, toList_madeCells_one, hZ]
  simp only [hZm] at hmk
  clear hZ hZm
  go_wp2_with (refine wpList_copy_splice rfl (.tmp 31) (.tmp 32) 22 22 rfl 3 Tryd.underlying22 (by kernel_rfl) _ _ _ _ _ _ rfl rfl w1.heap.size 0 Z 3 (row_new _ _) [.int .i64 z] (by show 1 = Nat.min 1 n; simp only [Nat.min_def]; rw [if_pos (by omega)]) (fun _ => ⟨rfl, _, rfl, fun j v hj => by obtain ⟨rfl, rfl⟩ : j = 0 ∧ v = .int .i64 z := (by cases j with | zero => simpa using hj.symm | succ j => simp at hj); exact ((alloc_below w1 _).cell (p := ⟨_, _, _⟩) (World.block_lt_of_cell? _ _ hc)).trans hc⟩) (by rw [hZl]; simp; omega) (by intro v hv; rw [List.mem_singleton] at hv; subst hv; rfl) w1.heap.size w1 (alloc_below w1 _) (Nat.le_refl _) ?_; intro w2 HG2 hB2)
  have hI : Hid (∃ L : List Value, L.length = n ∧ w2.heap[w1.heap.size]? = some (.cells L.toArray 3 (0, 0)) ∧ ∀ j, j < 1 → L[j]? = some (.int .i64 z)) := by
    refine ⟨_, ?_, HG2.out, ?_⟩
    · rw [length_splice _ _ _ (by rw [hZl]; simp; omega), hZl]
    · intro j hj
      obtain rfl : j = 0 := by omega
      rfl
  have HB2 := Lib.hid hB2
  have hs2 : w1.heap.size < w2.heap.size := (Array.getElem?_eq_some_iff.1 HG2.out).1
  have Hs2 := Lib.hid hs2
  clear HG2 hB2 hmk hc hZl hs2
  obtain ⟨g2, hg2⟩ : ∃ g2, g2 = w1.heap.size := ⟨_, rfl⟩
  rw [← hg2] at hI Hs2 ⊢
  have Hg2 := Lib.hid hg2
  clear hg2
  go_wp2_with fail
  go_loopw [8] (fun i wr => ∃ k : Nat, 1 ≤ k ∧ k ≤ n ∧ i = .int .i64 k ∧ Hid (∃ L : List Value, L.length = n ∧ wr.heap[g2]? = some (.cells L.toArray 3 (0, 0)) ∧ ∀ j, j < k → L[j]? = some (.int .i64 z)) ∧ Hid (Below w1.heap.size w1 wr)) (fun i _ => n - (intOf i).toNat)
  case atStart => exact ⟨1, Nat.le_refl _, h0, rfl, hI, HB2⟩
  case round =>
    obtain ⟨k, hk1, hk2, rfl, HI, HB⟩ := hrel
    clear hI HB2 Hs2
    obtain ⟨L, hLl, hLg, hLz⟩ := HI.out
    clear HI
    by_cases hlt : k < n
    · have b1 : (k : Int) ≤ n := by omega
      have Hz := Lib.hid hLz
      have HL := Lib.hid hLl
      obtain ⟨q, hq⟩ : ∃ q, q = min k (n - k) := ⟨_, rfl⟩
      have hnk : n ≠ k := by omega
      have hq1 : q ≤ k ∧ q ≤ n - k ∧ (q = k ∨ q = n - k) := by omega
      have hcell : ∀ j v, (List.replicate q (Value.int .i64 z))[j]? = some v → wr.cell? (Addr.add ⟨g2, 0, none⟩ j) = some v := by
        intro j v hj
        have hjq : j < q := by
          rw [List.getElem?_replicate] at hj
          split at hj
          · assumption
          · cases hj
        rw [List.getElem?_replicate, if_pos hjq] at hj
        rw [add_plain, Nat.zero_add]
        have := Hz.out j (by omega)
        rw [hj] at this
        rw [(cells_of_row hLg).1 j]
        rw [List.getElem?_toArray]
        exact this
      have HC := Lib.hid hcell
      clear hcell hLz hLl
      go_wp2_with fail
      go_region_law (refine step_copy_splice rfl (.tmp 41) (.tmp 44) 22 22 rfl 3 Tryd.underlying22 (by kernel_rfl) (some ⟨g2, k, none⟩) (some ⟨g2, 0, none⟩) (n - k) (n - k) k n (by simp [Act.eval, Act.put, hnk]) (by simp [Act.eval, Act.put]) g2 k L 3 hLg (List.replicate q (.int .i64 z)) (by rw [List.length_replicate, hq]) (fun _ => ⟨rfl, _, rfl, HC.out⟩) (by rw [HL.out]; simp; omega) (by intro v hv; rw [List.eq_of_mem_replicate hv]; rfl) w1.heap.size w1 HB.out.drew (by rw [Hg2.out]; exact Nat.le_refl _) ?_; intro w4 hg4 hb4)
      have Hk2 := Lib.hid (show IntKind.i64.wrap ((k : Int) + ((min k (n - k) : Nat) : Int)) = ((k + q : Nat) : Int) by rw [← hq, IntKind.wrap_i64]; omega)
      have hrel : Hid (∃ L : List Value, L.length = n ∧ w4.heap[g2]? = some (.cells L.toArray 3 (0, 0)) ∧ ∀ j, j < k + q → L[j]? = some (.int .i64 z)) := by
        refine ⟨_, ?_, hg4.out, ?_⟩
        · rw [length_splice _ _ _ (by rw [HL.out]; simp; omega), HL.out]
        · intro j hj
          unfold splice
          by_cases h : j < k
          · rw [List.getElem?_append_left (by rw [List.length_take]; have := HL.out; omega), List.getElem?_take, if_pos h]
            exact Hz.out j h
          · rw [List.getElem?_append_right (by rw [List.length_take]; omega), List.length_take, List.getElem?_append_left (by rw [List.length_replicate]; have := HL.out; omega), List.getElem?_replicate, if_pos (by have := HL.out; omega)]
      have HB4 := Lib.hid hb4
      clear hg4 hb4 Hz HC hLg
      go_wp2_with fail
      simp only [Act.put]
      go_simp
      refine ⟨⟨k + q, by omega, by omega, Hk2.out, hrel⟩, ?_⟩
      rw [Hk2.out]
      simp only [intOf]
      omega
    · obtain rfl : k = n := by omega
      have hLe : L = intz (List.replicate k z) := by
        refine List.ext_getElem? fun j => ?_
        unfold intz
        rw [List.getElem?_map, List.getElem?_replicate]
        by_cases h : j < k
        · rw [hLz j h, if_pos h]; rfl
        · rw [if_neg h, List.getElem?_eq_none (by omega)]; rfl
      rw [hLe] at hLg
      have Hfin := Lib.hid (show IntsAt wr w1.heap.size (.slice (some ⟨g2, 0, none⟩) k k) (List.replicate k z) by
        have e : (List.replicate k z).length = k := List.length_replicate
        unfold IntsAt
        rw [e]
        exact ⟨by simp [intz], .inr ⟨g2, k, _, rfl, by rw [Hg2.out]; exact Nat.le_refl _, hLg, Nat.le_refl _, by unfold maxLen; omega, by simp [intz], by rw [List.toList_toArray, List.take_of_length_le (by simp [intz])]⟩⟩)
      clear hLg hLz hLl hLe
      go_wp2_with fail
      go_ret
      exact ⟨_, rfl, Hfin.out, HB.out⟩
theorem word12 (a : Int) : ∃ q : Nat, q < 12 ∧ (IntKind.u64.wrap a).tmod 12 = q ∧ wrap64 (q : Int) = q := by
  obtain ⟨p, hp⟩ : ∃ p : Nat, (p : Int) = a % 18446744073709551616 % 12 := ⟨(a % 18446744073709551616 % 12).toNat, by omega⟩
  have hp2 : p < 12 := by omega
  have e : IntKind.u64.wrap a = a % 18446744073709551616 := by simp [IntKind.wrap, IntKind.bits, IntKind.signed]
  refine ⟨p, hp2, by rw [e, Int.tmod_eq_emod_of_nonneg (by omega), hp], by unfold wrap64; omega⟩
set_option maxRecDepth 100000 in
theorem clusterFlags_walk (p0 : Int) (hp0 : (Lit.int .i64 p0).wf = true) (w : World) (hE : Env w) (hT : EnvT w) : Calls Tryd.prog 4 #[.int .i64 p0] w fun e w' => e = .returned (.bool true) ∧ Below w.heap.size w w' := by
  have HLD := Lib.hid (load_calls w hE hT)
  have HEd := Lib.hid (fun (W : World) (m : Nat) (zs : List Int) (v : Value) (ht : TabAt W m files) (hl : ListAt W v zs) (p : Int) (hp : (Lit.int .i64 p).wf = true) => edgef_walk ht hl p hp)
  have Hpre := Lib.hid files_breaks
  generalize files = Φ at *
  clear hE hT hp0
  obtain ⟨q, hq, b1, b2⟩ := word12 p0
  have b3 : IntKind.i64.wrap (1 + (q : Int)) = ((q + 1 : Nat) : Int) := by rw [IntKind.wrap_i64]; omega
  obtain ⟨n, hn⟩ : ∃ n, n = q + 1 := ⟨_, rfl⟩
  rw [← hn] at b3
  have hn1 : 0 < n := by omega
  have hn2 : n ≤ 12 := by omega
  obtain ⟨N, hN⟩ : ∃ N, N = n + 1 := ⟨_, rfl⟩
  have b4 : IntKind.i64.wrap ((n : Int) + 1) = (N : Int) := by rw [IntKind.wrap_i64]; omega
  have hN3 : N ≤ 13 := by omega
  have HN := Lib.hid hN
  clear hn hq hN
  go_enter Tryd.func4, Tryd.ntmps4
  go_wp2_with fail
  refine HLD.out.mono ?_
  rintro e w1 ⟨rfl, ht, hb1⟩
  have hba := alloc_below w1 (Obj.cells #[Value.int IntKind.i64 127462] 3)
  have HT1 := Lib.hid (ht.below hba)
  have HB1 := Lib.hid (hb1.trans (hba.mono hb1.size))
  have hc1 : (w1.alloc (Obj.cells #[Value.int IntKind.i64 127462] 3)).cell? ⟨w1.heap.size, 0, none⟩ = some (.int .i64 127462) := (cells_of_row (row_new w1 _)).1 0
  have HR := Lib.hid (repeat_walk 127462 n hc1 hn1 hn2)
  clear ht hb1 hba HLD hc1 b1 b2 b3
  go_wp2_with fail
  refine HR.out.mono ?_
  rintro e w2 ⟨v2, rfl, hr2, hb2⟩
  obtain ⟨A2, c2, rfl⟩ := own_slice hr2
  have HL2 := Lib.hid (ListV.of_own hr2)
  have HT2 := Lib.hid (HT1.out.below hb2)
  have HB2 := Lib.hid (HB1.out.trans (hb2.mono HB1.out.size))
  obtain ⟨V2, hV2⟩ : ∃ V2, V2 = Value.slice A2 (List.replicate n (127462 : Int)).length c2 := ⟨_, rfl⟩
  rw [← hV2] at HL2 ⊢
  clear hr2 hb2 HT1 HB1 HR hV2
  go_wp2_with fail
  go_loopw [17] (fun i wr => ∃ p : Nat, p ≤ N ∧ i = .int .i64 p ∧ Hid (Below w2.heap.size w2 wr)) (fun i _ => N - (intOf i).toNat)
  case atStart => exact ⟨0, by omega, rfl, Below.refl _ _⟩
  case round =>
    obtain ⟨p, hp, rfl, HB⟩ := hrel
    have hN := HN.out
    by_cases hlt : p < N
    · have he := edge_flags Hpre.out n p (by omega) hn1
      have HE := Lib.hid (HEd.out _ _ _ _ (HT2.out.below HB.out) (HL2.out.below HB.out).1 (p : Nat) (wf_i64 (by omega) (by omega)))
      rw [he] at HE
      have hcase : ((p % 2 == 0 || p == n) = true ∧ (p : Int) % 2 = 0) ∨ ((p % 2 == 0 || p == n) = true ∧ (p : Int) % 2 = 1 ∧ ((p : Int) == (n : Int)) = true) ∨ ((p % 2 == 0 || p == n) = false ∧ (p : Int) % 2 = 1 ∧ ((p : Int) == (n : Int)) = false) := by
        by_cases h1 : p % 2 = 0
        · left
          rw [h1]
          exact ⟨rfl, by omega⟩
        · have e1 : (p % 2 == 0) = false := beq_eq_false_iff_ne.2 h1
          right
          rw [e1, Bool.false_or]
          by_cases h2 : p = n
          · left
            subst h2
            exact ⟨by simp, by omega, by simp⟩
          · right
            exact ⟨beq_eq_false_iff_ne.2 h2, by omega, by rw [beq_eq_false_iff_ne]; omega⟩
      have d0 : decide ((p : Int) < (N : Int)) = true := by rw [decide_eq_true_eq]; omega
      have hpN : p + 1 ≤ N := by omega
      clear he hN
      rcases hcase with ⟨k1, k2⟩ | ⟨k1, k2, k3⟩ | ⟨k1, k2, k3⟩
      all_goals
        rw [k1] at HE
        clear k1
        go_wp2_with fail
        refine HE.out.mono ?_
        rintro e w3 ⟨rfl, hb3⟩
        have HB3 := Lib.hid (HB.out.trans (hb3.mono HB.out.size))
        clear hb3 HE
        go_wp2_with fail
        go_roundw
        case rel => exact ⟨p + 1, hpN, by go_num, HB3⟩
        case measure => simp [intOf]; omega
    · obtain rfl : p = N := by omega
      clear hN
      have HBf := Lib.hid (HB2.out.trans (HB.out.mono HB2.out.size))
      go_wp2_with fail
      go_ret
      exact ⟨rfl, HBf.out⟩
end Go.Proofs.YtgdpfjipgmfjfabDoor
