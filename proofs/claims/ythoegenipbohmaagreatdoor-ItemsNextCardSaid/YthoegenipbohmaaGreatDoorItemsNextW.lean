/- rubricatorlaw12.ItemsNext answers true. -/
import Derived.Test.YthoegenipbohmaaGreatDoorItmD
namespace Go.Proofs.YthoegenipbohmaaGreatDoor
open Go.RowKit Utf Itm
set_option linter.unusedVariables false
set_option linter.unusedSimpArgs false
set_option maxRecDepth 100000 in
set_option maxHeartbeats 1600000 in
theorem itemsNext_walk {v0 : Value} {bs : List Nat} (w : World) (h : BytesAt w v0 bs) (canon : Bool) (at_ : Int) (hw : (Lit.int .i64 at_).wf = true) (hE : Env w) (hT : EnvT w) (hH : Hang w) : Calls Tryz.prog 8 #[v0, .bool canon, .int .i64 at_] w fun e w' => e = .returned (.bool true) ∧ Below w.heap.size w w' := by
  have HBo := Lib.hid (both_walk h canon hE hT hH)
  have hsl := subj_len canon (bs.take 300) (take300 bs)
  clear h hE hT hH
  go_enter Tryz.func8, Tryz.ntmps8
  go_wp2_with fail
  refine HBo.out.mono ?_
  rintro e w1 hbo
  obtain ⟨p, q, B, B', rfl, hx, hq, hb1⟩ := hbo.get
  generalize subj canon (bs.take 300) = L at *
  generalize bs.take 300 = cs at *
  have HX := Lib.hid hx
  obtain ⟨_, _, vb, vl, h2, h3, h4⟩ := hq
  obtain ⟨Al, cl, rfl⟩ := own_slice h4
  have c1 := h2.cell 1
  have HV := Lib.hid (show ItemsAt w1 B' (.slice Al L.length cl) L from h4)
  have HB := Lib.hid hb1
  have hcl : L.length ≤ cl := by
    rcases h4.2 with ⟨h, hz⟩ | ⟨g, cap, cur, h, _, _, hc, _⟩
    · omega
    · injection h with _ _ h
      omega
  clear hbo h2 h3 h4 hb1 HBo
  go_wp2_with fail
  refine (tafter_walk HX.out (by omega) at_).mono ?_
  rintro e w2 ⟨n, rfl, hn, rfl⟩
  have HA := Lib.hid hn
  have hnl : n ≤ L.length := hn.1
  clear hn HX
  have d1 : decide ((n : Int) < 0) = false := by rw [decide_eq_false_iff_not]; omega
  have d2 : decide ((n : Int) > (L.length : Int)) = false := by rw [decide_eq_false_iff_not]; omega
  have d3 : decide ((L.length : Int) < (n : Int)) = false := by rw [decide_eq_false_iff_not]; omega
  have d4 : decide (n > L.length) = false := by rw [decide_eq_false_iff_not]; omega
  have d5 : decide (L.length < n) = false := by rw [decide_eq_false_iff_not]; omega
  have hn0 : (0 : Int) ≤ n := by omega
  have HX0 := Lib.hid (fun (k : Nat) (hk : n + k < L.length) => HA.out.2.1 (n + k) hk (by omega))
  by_cases hcn : cl = n
  · have hle : L.length - n = 0 := by omega
    go_wp2_with fail
    go_loopw [43] (fun i wr => i = .int .i64 0 ∧ w1 = wr) (fun i _ => 0)
    case atStart => exact ⟨rfl, rfl⟩
    case round =>
      obtain ⟨rfl, rfl⟩ := hrel
      have hnot : ¬ (0 < L.length - n) := by omega
      have HBW := Lib.hid (Below.refl w1.heap.size w1)
        -- the one ahead of it
      cases n with
      | zero =>
        clear HA
        go_wp2_with fail
        go_ret
        exact ⟨rfl, HB.out⟩
      | succ m =>
        have hml : m < L.length := by omega
        have hs0 : L[m].s < at_ := by
          rcases HA.out.2.2 with h | ⟨_, h⟩
          · omega
          · exact h
        obtain ⟨gl, cap, hv, _⟩ := own_form HV.out (by omega)
        injection hv with hA h0 h1
        subst hA h1
        clear h0
        have cS := cell_later HBW.out (own_cell HV.out _ _ (items_get L m hml).2.1)
        obtain ⟨s', hs'⟩ : ∃ s' : Int, s' = L[m].s := ⟨_, rfl⟩
        rw [← hs'] at cS hs0
        have e1 : decide (s' < at_) = true := decide_eq_true hs0
        have e2 : IntKind.i64.wrap (((m + 1 : Nat) : Int) - 1) = (m : Int) := by rw [IntKind.wrap_i64]; omega
        have e3 : IntKind.i64.wrap ((m : Int) + 1 - 1) = (m : Int) := by rw [IntKind.wrap_i64]; omega
        have e4 : IntKind.i64.wrap (m : Int) = (m : Int) := by rw [IntKind.wrap_i64]; omega
        have e5 : (((m + 1 : Nat) : Int) == 0) = false := by rw [beq_eq_false_iff_ne]; omega
        have e6 : ((m : Int) + 1 == 0) = false := by rw [beq_eq_false_iff_ne]; omega
        have c1' := cell_later HBW.out c1
        clear hs' hs0 HA
        go_wp2_with fail
        go_ret
        exact ⟨rfl, HB.out⟩
  · go_wp2_with fail
    obtain ⟨M, hM⟩ : ∃ M, M = L.length - n := ⟨_, rfl⟩
    rw [← hM]
    have hML : M + n = L.length := by omega
    have hM3 : M ≤ 30000 := by omega
    have HM := Lib.hid hM
    clear hM
    go_loopw [43] (fun i wr => ∃ k : Nat, k ≤ M ∧ i = .int .i64 k ∧ Hid (Below w1.heap.size w1 wr) ∧ Hid (Below w.heap.size w wr)) (fun i _ => M - (intOf i).toNat)
    case atStart => exact ⟨0, Nat.zero_le _, rfl, Below.refl _ _, HB⟩
    case round =>
      clear HB
      obtain ⟨k, hk, rfl, HBW, HB⟩ := hrel
      by_cases hkl : k < M
      · obtain ⟨gl, cap, hv, _⟩ := own_form HV.out (by omega)
        injection hv with hA h0 h1
        subst hA h1
        clear h0
        have hnk : n + k < L.length := by omega
        have hge := HX0.out k hnk
        obtain ⟨x, hx⟩ : ∃ x, x = L[n + k] := ⟨_, rfl⟩
        obtain ⟨p0, p1, p2⟩ := items_get L (n + k) hnk
        rw [← hx] at p0 p1 p2 hge
        have q0 := cell_later HBW.out (own_cell HV.out _ _ p0)
        have q1 := cell_later HBW.out (own_cell HV.out _ _ p1)
        have q2 := cell_later HBW.out (own_cell HV.out _ _ p2)
        rw [Nat.add_mul] at q0 q1 q2
        have e1 : decide (x.s < at_) = false := by rw [decide_eq_false_iff_not]; omega
        have hba := alloc_below wr (Obj.cells #[.int .i64 x.r, .int .i64 x.s, .int .i64 x.e] 25)
        have HB2 := Lib.hid (HB.out.trans (hba.mono HB.out.size))
        have HBW2 := Lib.hid (HBW.out.trans (hba.mono HBW.out.size))
        clear p0 p1 p2 hx hba HB HBW hge hnk hML
        go_wp2_with fail
        go_roundw
        case rel => exact ⟨k + 1, by omega, by go_num, HBW2, HB2⟩
        case measure => simp [intOf]; omega
      · have hke : k = M := by omega
        subst hke
          -- the one ahead of it
        cases n with
        | zero =>
          clear HA
          go_wp2_with fail
          go_ret
          exact ⟨rfl, HB.out⟩
        | succ m =>
          have hml : m < L.length := by omega
          have hs0 : L[m].s < at_ := by
            rcases HA.out.2.2 with h | ⟨_, h⟩
            · omega
            · exact h
          obtain ⟨gl, cap, hv, _⟩ := own_form HV.out (by omega)
          injection hv with hA h0 h1
          subst hA h1
          clear h0
          have cS := cell_later HBW.out (own_cell HV.out _ _ (items_get L m hml).2.1)
          obtain ⟨s', hs'⟩ : ∃ s' : Int, s' = L[m].s := ⟨_, rfl⟩
          rw [← hs'] at cS hs0
          have e1 : decide (s' < at_) = true := decide_eq_true hs0
          have e2 : IntKind.i64.wrap (((m + 1 : Nat) : Int) - 1) = (m : Int) := by rw [IntKind.wrap_i64]; omega
          have e3 : IntKind.i64.wrap ((m : Int) + 1 - 1) = (m : Int) := by rw [IntKind.wrap_i64]; omega
          have e4 : IntKind.i64.wrap (m : Int) = (m : Int) := by rw [IntKind.wrap_i64]; omega
          have e5 : (((m + 1 : Nat) : Int) == 0) = false := by rw [beq_eq_false_iff_ne]; omega
          have e6 : ((m : Int) + 1 == 0) = false := by rw [beq_eq_false_iff_ne]; omega
          have c1' := cell_later HBW.out c1
          clear hs' hs0 HA
          go_wp2_with fail
          go_ret
          exact ⟨rfl, HB.out⟩
end Go.Proofs.YthoegenipbohmaaGreatDoor
