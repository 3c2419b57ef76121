/- rubricatorref01: first, Decode. Printed by wip/tools/mkfirst.py. -/
import Derived.Test.YthoegenipbohmaaGreatDoorUtfD
namespace Go.Proofs.YthoegenipbohmaaGreatDoor
open Go.RowKit Utf
set_option linter.unusedVariables false
set_option linter.unusedSimpArgs false
theorem add_succU (a : Addr) (k : Nat) : a.add (k + 1) = ⟨a.block, a.off + 1 + k, none⟩ := by
  unfold Addr.add
  split
  · rename_i h
    simp at h
  · simp
def FirstSaid (b : Nat) (t : List Nat) (w : World) (e : Ending) (w' : World) : Prop := (∃ ok, e = .returned (.tuple #[.agg #[.int .i64 ((rd b t).1 : Nat), .int .i64 0, .int .i64 ((rd b t).2 : Nat)], .bool ok])) ∧ Below w.heap.size w w'
theorem FirstSaid.mk {b : Nat} {t : List Nat} {w : World} {r n : Nat} (h : rd b t = (r, n)) (ok : Bool) (w' : World) (hb : Below w.heap.size w w') : FirstSaid b t w (.returned (.tuple #[.agg #[.int .i64 r, .int .i64 0, .int .i64 n], .bool ok])) w' := by
  unfold FirstSaid
  rw [h]
  exact ⟨⟨ok, rfl⟩, hb⟩
set_option maxRecDepth 100000 in
theorem first2_walk (w : World) (v : Value) (b : Nat) (t : List Nat) (h : BytesAt w v (b :: t)) (hl : t.length ≤ 1000000) (hs : szOf b = 2) : Calls Tryz.prog 74 #[v] w (FirstSaid b t w) := by
  obtain ⟨ad, c, rfl, hnc, hb, c0, hct⟩ := h.some
  rw [add_noneU] at c0
  have hba := alloc_below w (Obj.cells #[Value.int IntKind.i64 0, Value.int IntKind.i64 0, Value.int IntKind.i64 0] 25)
  have HC := Lib.hid (fun (j : Nat) (h : j < t.length) => (⟨(hct j h).1, cell_later hba (hct j h).2⟩ : t[j] ≤ 255 ∧ (w.alloc (Obj.cells #[Value.int IntKind.i64 0, Value.int IntKind.i64 0, Value.int IntKind.i64 0] 25)).cell? (ad.add (j + 1)) = some (.int .u8 (t[j] : Nat))))
  replace c0 := cell_later hba c0
  obtain ⟨n, hn⟩ : ∃ n : Nat, n = t.length + 1 := ⟨_, rfl⟩
  have hn0 : 0 < n := by omega
  rw [← hn] at hnc ⊢
  have HNn := Lib.hid hn
  have HS := Lib.hid hs
  obtain ⟨X0, hX0⟩ : ∃ X : Int, X = (b : Nat) := ⟨_, rfl⟩
  have HSZ := size_walk (w.alloc (Obj.cells #[Value.int IntKind.i64 0, Value.int IntKind.i64 0, Value.int IntKind.i64 0] 25)) b hb
  rw [hs, ← hX0] at HSZ
  replace HSZ := Lib.hid HSZ
  rw [← hX0] at c0
  have HBD := Lib.hid (fun (q : Nat) (h1 : 1 ≤ q) (h2 : q < 2) => (show Calls Tryz.prog 98 #[.int .u8 X0, .int .i64 q] (w.alloc (Obj.cells #[Value.int IntKind.i64 0, Value.int IntKind.i64 0, Value.int IntKind.i64 0] 25)) fun e w' => e = .returned (.tuple #[.int .u8 (loOf b q : Nat), .int .u8 (hiOf b q : Nat), .bool true]) ∧ (w.alloc (Obj.cells #[Value.int IntKind.i64 0, Value.int IntKind.i64 0, Value.int IntKind.i64 0] 25)) = w' from hX0 ▸ bounds_walk (w.alloc (Obj.cells #[Value.int IntKind.i64 0, Value.int IntKind.i64 0, Value.int IntKind.i64 0] 25)) b q hb h1 (by rw [hs]; exact h2)))
  have w1 : IntKind.i64.wrap X0 = X0 := by rw [IntKind.wrap_i64]; omega
  have a1 : bits BinOp.and IntKind.i64 X0 31 = ((first b 2 : Nat) : Int) := by
    rw [hX0, show ((31 : Int)) = (2 : Int) ^ 5 - 1 by decide, and_mask b 5 hb (by decide)]
    unfold first
    rw [if_neg (by decide)]
  have hf0 : first b 2 < 32 := by unfold first; rw [if_neg (by decide)]; exact Nat.mod_lt _ (by decide)
  obtain ⟨f0, hf⟩ : ∃ f, f = first b 2 := ⟨_, rfl⟩
  rw [← hf] at a1 hf0
  have HF := Lib.hid hf
  clear h hct hn hs hX0 hb hf hba
  go_enter Tryz.func74, Tryz.ntmps74
  go_wp2_with fail
  refine HSZ.out.mono ?_
  rintro e w1 ⟨rfl, rfl⟩
  clear HSZ
  go_wp2_with fail
  go_loopw [5] (fun i wr => ∃ q : Nat, 1 ≤ q ∧ q ≤ 2 ∧ q ≤ n ∧ i = .int .i64 q ∧ Hid (runTo b 2 t 1 = runTo b 2 (t.drop (q - 1)) q) ∧ (w.alloc (Obj.cells #[Value.int IntKind.i64 0, Value.int IntKind.i64 0, Value.int IntKind.i64 0] 25)) = wr) (fun i _ => 2 + 1 - (intOf i).toNat)
  case atStart => exact ⟨1, Nat.le_refl _, by omega, by omega, rfl, rfl, rfl⟩
  case round =>
    obtain ⟨q, hq1, hqs, hqn, rfl, HRT, rfl⟩ := hrel
    by_cases hlt : q < 2
    · have hq2 : q ≤ 2 - 1 := by omega
      have dq : decide ((q : Int) < 2) = true := by rw [decide_eq_true_eq]; omega
      by_cases hqn2 : q < n
      · have hjt : q - 1 < t.length := by have := HNn.out; omega
        obtain ⟨hx255, hcell⟩ := HC.out (q - 1) hjt
        have HRA := Lib.hid (read_at hjt b 2)
        rw [show q - 1 + 1 = q by omega] at hcell HRA
        obtain ⟨x, hx⟩ : ∃ x, x = t[q - 1] := ⟨_, rfl⟩
        rw [← hx] at hcell HRA hx255
        have HB1 := HBD.out q hq1 hlt
        obtain ⟨lo, hlo⟩ : ∃ s : Int, s = (loOf b q : Nat) := ⟨_, rfl⟩
        obtain ⟨hi, hhi⟩ : ∃ s : Int, s = (hiOf b q : Nat) := ⟨_, rfl⟩
        rw [← hlo, ← hhi] at HB1
        replace HB1 := Lib.hid HB1
        have HLO := Lib.hid hlo
        have HHI := Lib.hid hhi
        obtain ⟨Y, hY⟩ : ∃ Y : Int, Y = (x : Nat) := ⟨_, rfl⟩
        rw [← hY] at hcell
        clear hx hlo hhi
        cases hok : okAt b q x with
        | true =>
          have hlo2 : lo ≤ Y ∧ Y ≤ hi := by
            have h1 := HLO.out
            have h2 := HHI.out
            unfold okAt at hok
            simp only [Bool.and_eq_true, decide_eq_true_eq] at hok
            omega
          have d3 : decide (Y < lo) = false := by rw [decide_eq_false_iff_not]; omega
          have d4 : decide (Y > hi) = false := by rw [decide_eq_false_iff_not]; omega
          have d5 : decide (hi < Y) = false := by rw [decide_eq_false_iff_not]; omega
          have HRn := Lib.hid (show runTo b 2 t 1 = runTo b 2 (t.drop (q + 1 - 1)) (q + 1) by
            rw [HRT.out, show q + 1 - 1 = q by omega]
            have := HRA.out
            rw [if_pos ⟨hlt, hok⟩] at this
            exact this)
          clear HRT HRA hok HLO HHI hlo2 hx255 hY
          go_wp2_with fail
          refine HB1.out.mono ?_
          rintro e w1 ⟨rfl, rfl⟩
          clear HB1
          go_wp2_with fail
          go_roundw
          case rel => exact ⟨q + 1, by omega, by omega, by omega, by go_num, HRn, by first | rfl | trivial⟩
          case measure => simp [intOf]; omega
        | false =>
          have hfin : rd b t = (65533, q) := by
            unfold rd
            rw [HS.out, if_neg (by decide), HRT.out]
            have := HRA.out
            rw [if_neg (by rw [hok]; simp)] at this
            rw [this, if_pos hlt]
          have hlo2 : Y < lo ∨ hi < Y := by
            have h1 := HLO.out
            have h2 := HHI.out
            unfold okAt at hok
            simp only [Bool.and_eq_false_iff, decide_eq_false_iff_not] at hok
            omega
          have HFin := Lib.hid (FirstSaid.mk (w := w) hfin)
          clear HRT HRA hok HLO HHI hx255 hY hfin
          by_cases h3 : Y < lo
          · have d3 : decide (Y < lo) = true := decide_eq_true h3
            clear h3 hlo2
            go_wp2_with fail
            refine HB1.out.mono ?_
            rintro e w1 ⟨rfl, rfl⟩
            clear HB1
            go_wp2_with fail
            refine bodyPost_ret (v := .tuple #[.agg #[.int .i64 65533, .int .i64 0, .int .i64 q], .bool false]) (by simp [results, Tryz.results74, go_sem]) rfl ?_
            exact HFin.out _ _ ((Below.refl _ _).alloc (Nat.le_refl _) _)
          · have d3 : decide (Y < lo) = false := decide_eq_false h3
            have d4 : decide (Y > hi) = true := by rw [decide_eq_true_eq]; omega
            have d5 : decide (hi < Y) = true := by rw [decide_eq_true_eq]; omega
            clear h3 hlo2
            go_wp2_with fail
            refine HB1.out.mono ?_
            rintro e w1 ⟨rfl, rfl⟩
            clear HB1
            go_wp2_with fail
            refine bodyPost_ret (v := .tuple #[.agg #[.int .i64 65533, .int .i64 0, .int .i64 q], .bool false]) (by simp [results, Tryz.results74, go_sem]) rfl ?_
            exact HFin.out _ _ ((Below.refl _ _).alloc (Nat.le_refl _) _)
      · have hfin : rd b t = (65533, q) := by
          have hd : t.drop (q - 1) = [] := List.drop_eq_nil_of_le (by have := HNn.out; omega)
          unfold rd
          rw [HS.out, if_neg (by decide), HRT.out, hd]
          show (if q < 2 then _ else _) = _
          rw [if_pos hlt]
          rfl
        have HFin := Lib.hid (FirstSaid.mk (w := w) hfin)
        have dl : decide (q < n) = false := decide_eq_false hqn2
        clear HRT hfin
        go_wp2_with fail
        refine bodyPost_ret (v := .tuple #[.agg #[.int .i64 65533, .int .i64 0, .int .i64 q], .bool false]) (by simp [results, Tryz.results74, go_sem]) rfl ?_
        exact HFin.out _ _ ((Below.refl _ _).alloc (Nat.le_refl _) _)
    · have hqe : q = 2 := by omega
      subst hqe
      have hcp : ∀ R, R = (t.take (2 - 1)).foldl Utf.step f0 → rd b t = (R, 2) := by
        intro R hR
        unfold rd
        rw [HS.out, if_neg (by decide), HRT.out, run0, if_neg (by decide)]
        unfold cpOf
        rw [hR, HF.out]
      have HCP := Lib.hid hcp
      have hne : ¬ c = 1 := by omega
      have hle1 : 2 ≤ n := hqn
      have hle2 : 2 ≤ c := by omega
      clear HRT hcp
      go_wp2_with fail
      go_loopw [9, 72] (fun r i wr => ∃ (k R : Nat), k ≤ 2 - 1 ∧ i = .int .i64 k ∧ r = .int .i64 R ∧ Hid (R = (t.take k).foldl Utf.step f0) ∧ (w.alloc (Obj.cells #[Value.int IntKind.i64 0, Value.int IntKind.i64 0, Value.int IntKind.i64 0] 25)) = wr) (fun _ i _ => 2 - 1 - (intOf i).toNat)
      case atStart => exact ⟨0, f0, Nat.zero_le _, rfl, rfl, rfl, rfl⟩
      case round =>
        obtain ⟨k, R, hk, rfl, rfl, HR, rfl⟩ := hrel
        by_cases hkl : k < 2 - 1
        · have hjt : k < t.length := by have := HNn.out; omega
          obtain ⟨hx255, hcell⟩ := HC.out k hjt
          obtain ⟨x, hx⟩ : ∃ x, x = t[k] := ⟨_, rfl⟩
          rw [← hx] at hcell hx255
          have HTK := Lib.hid (show Utf.step R x = (t.take (k + 1)).foldl Utf.step f0 by
            rw [List.take_succ_eq_append_getElem hjt, List.foldl_append, ← HR.out, ← hx]
            rfl)
          have hR64 : R < 2097152 := by
            have h1 := fold_lt (t.take k) f0
            rw [List.length_take, ← HR.out] at h1
            have h2 : (f0 + 1) * 64 ^ min k t.length ≤ 32 * 64 ^ (2 - 2) := Nat.mul_le_mul (by omega) (Nat.pow_le_pow_right (by decide) (by omega))
            omega
          obtain ⟨Y, hY⟩ : ∃ Y : Int, Y = (x : Nat) := ⟨_, rfl⟩
          rw [← hY] at hcell
          have cx1 : (w.alloc (Obj.cells #[Value.int IntKind.i64 0, Value.int IntKind.i64 0, Value.int IntKind.i64 0] 25)).cell? ((ad.add 1).add k) = some (.int .u8 Y) := by rw [Addr.add_add, Nat.add_comm 1 k]; exact hcell
          have cx3 : (w.alloc (Obj.cells #[Value.int IntKind.i64 0, Value.int IntKind.i64 0, Value.int IntKind.i64 0] 25)).cell? ⟨ad.block, ad.off + 1 + k, none⟩ = some (.int .u8 Y) := by rw [← add_succU]; exact hcell
          have cx2 : (w.alloc (Obj.cells #[Value.int IntKind.i64 0, Value.int IntKind.i64 0, Value.int IntKind.i64 0] 25)).cell? (ad.add (1 + k)) = some (.int .u8 Y) := by rw [Nat.add_comm 1 k]; exact hcell
          have b1 : bits BinOp.and IntKind.u8 Y 63 = ((x % 64 : Nat) : Int) := by rw [hY]; exact and63 x hx255
          have b2 : IntKind.i64.wrap ((x % 64 : Nat) : Int) = ((x % 64 : Nat) : Int) := by rw [IntKind.wrap_i64]; omega
          have b2' : IntKind.i64.wrap ((x : Int) % 64) = (x : Int) % 64 := by rw [IntKind.wrap_i64]; omega
          have b3 : IntKind.i64.wrap ((R : Int) * 64) = (R : Int) * 64 := by rw [IntKind.wrap_i64]; omega
          have b4 : IntKind.i64.wrap ((R : Int) * 64 + ((x % 64 : Nat) : Int)) = ((Utf.step R x : Nat) : Int) := by rw [IntKind.wrap_i64]; unfold Utf.step; omega
          have b4' : IntKind.i64.wrap ((R : Int) * 64 + (x : Int) % 64) = ((Utf.step R x : Nat) : Int) := by rw [IntKind.wrap_i64]; unfold Utf.step; omega
          clear hx hY HR hx255 hcell
          go_wp2_with fail
          go_roundw
          case rel => exact ⟨k + 1, Utf.step R x, by omega, by go_num, rfl, HTK, by first | rfl | trivial⟩
          case measure => simp [intOf]; omega
        · have hke : k = 2 - 1 := by omega
          subst hke
          have HFin := Lib.hid (FirstSaid.mk (w := w) (HCP.out R HR.out))
          clear HR HCP
          go_wp2_with fail
          refine bodyPost_ret (v := .tuple #[.agg #[.int .i64 R, .int .i64 0, .int .i64 2], .bool true]) (by simp [results, Tryz.results74, go_sem]) rfl ?_
          exact HFin.out _ _ ((Below.refl _ _).alloc (Nat.le_refl _) _)
set_option maxRecDepth 100000 in
theorem first3_walk (w : World) (v : Value) (b : Nat) (t : List Nat) (h : BytesAt w v (b :: t)) (hl : t.length ≤ 1000000) (hs : szOf b = 3) : Calls Tryz.prog 74 #[v] w (FirstSaid b t w) := by
  obtain ⟨ad, c, rfl, hnc, hb, c0, hct⟩ := h.some
  rw [add_noneU] at c0
  have hba := alloc_below w (Obj.cells #[Value.int IntKind.i64 0, Value.int IntKind.i64 0, Value.int IntKind.i64 0] 25)
  have HC := Lib.hid (fun (j : Nat) (h : j < t.length) => (⟨(hct j h).1, cell_later hba (hct j h).2⟩ : t[j] ≤ 255 ∧ (w.alloc (Obj.cells #[Value.int IntKind.i64 0, Value.int IntKind.i64 0, Value.int IntKind.i64 0] 25)).cell? (ad.add (j + 1)) = some (.int .u8 (t[j] : Nat))))
  replace c0 := cell_later hba c0
  obtain ⟨n, hn⟩ : ∃ n : Nat, n = t.length + 1 := ⟨_, rfl⟩
  have hn0 : 0 < n := by omega
  rw [← hn] at hnc ⊢
  have HNn := Lib.hid hn
  have HS := Lib.hid hs
  obtain ⟨X0, hX0⟩ : ∃ X : Int, X = (b : Nat) := ⟨_, rfl⟩
  have HSZ := size_walk (w.alloc (Obj.cells #[Value.int IntKind.i64 0, Value.int IntKind.i64 0, Value.int IntKind.i64 0] 25)) b hb
  rw [hs, ← hX0] at HSZ
  replace HSZ := Lib.hid HSZ
  rw [← hX0] at c0
  have HBD := Lib.hid (fun (q : Nat) (h1 : 1 ≤ q) (h2 : q < 3) => (show Calls Tryz.prog 98 #[.int .u8 X0, .int .i64 q] (w.alloc (Obj.cells #[Value.int IntKind.i64 0, Value.int IntKind.i64 0, Value.int IntKind.i64 0] 25)) fun e w' => e = .returned (.tuple #[.int .u8 (loOf b q : Nat), .int .u8 (hiOf b q : Nat), .bool true]) ∧ (w.alloc (Obj.cells #[Value.int IntKind.i64 0, Value.int IntKind.i64 0, Value.int IntKind.i64 0] 25)) = w' from hX0 ▸ bounds_walk (w.alloc (Obj.cells #[Value.int IntKind.i64 0, Value.int IntKind.i64 0, Value.int IntKind.i64 0] 25)) b q hb h1 (by rw [hs]; exact h2)))
  have w1 : IntKind.i64.wrap X0 = X0 := by rw [IntKind.wrap_i64]; omega
  have a1 : bits BinOp.and IntKind.i64 X0 15 = ((first b 3 : Nat) : Int) := by
    rw [hX0, show ((15 : Int)) = (2 : Int) ^ 4 - 1 by decide, and_mask b 4 hb (by decide)]
    unfold first
    rw [if_neg (by decide)]
  have hf0 : first b 3 < 16 := by unfold first; rw [if_neg (by decide)]; exact Nat.mod_lt _ (by decide)
  obtain ⟨f0, hf⟩ : ∃ f, f = first b 3 := ⟨_, rfl⟩
  rw [← hf] at a1 hf0
  have HF := Lib.hid hf
  clear h hct hn hs hX0 hb hf hba
  go_enter Tryz.func74, Tryz.ntmps74
  go_wp2_with fail
  refine HSZ.out.mono ?_
  rintro e w1 ⟨rfl, rfl⟩
  clear HSZ
  go_wp2_with fail
  go_loopw [5] (fun i wr => ∃ q : Nat, 1 ≤ q ∧ q ≤ 3 ∧ q ≤ n ∧ i = .int .i64 q ∧ Hid (runTo b 3 t 1 = runTo b 3 (t.drop (q - 1)) q) ∧ (w.alloc (Obj.cells #[Value.int IntKind.i64 0, Value.int IntKind.i64 0, Value.int IntKind.i64 0] 25)) = wr) (fun i _ => 3 + 1 - (intOf i).toNat)
  case atStart => exact ⟨1, Nat.le_refl _, by omega, by omega, rfl, rfl, rfl⟩
  case round =>
    obtain ⟨q, hq1, hqs, hqn, rfl, HRT, rfl⟩ := hrel
    by_cases hlt : q < 3
    · have hq2 : q ≤ 3 - 1 := by omega
      have dq : decide ((q : Int) < 3) = true := by rw [decide_eq_true_eq]; omega
      by_cases hqn2 : q < n
      · have hjt : q - 1 < t.length := by have := HNn.out; omega
        obtain ⟨hx255, hcell⟩ := HC.out (q - 1) hjt
        have HRA := Lib.hid (read_at hjt b 3)
        rw [show q - 1 + 1 = q by omega] at hcell HRA
        obtain ⟨x, hx⟩ : ∃ x, x = t[q - 1] := ⟨_, rfl⟩
        rw [← hx] at hcell HRA hx255
        have HB1 := HBD.out q hq1 hlt
        obtain ⟨lo, hlo⟩ : ∃ s : Int, s = (loOf b q : Nat) := ⟨_, rfl⟩
        obtain ⟨hi, hhi⟩ : ∃ s : Int, s = (hiOf b q : Nat) := ⟨_, rfl⟩
        rw [← hlo, ← hhi] at HB1
        replace HB1 := Lib.hid HB1
        have HLO := Lib.hid hlo
        have HHI := Lib.hid hhi
        obtain ⟨Y, hY⟩ : ∃ Y : Int, Y = (x : Nat) := ⟨_, rfl⟩
        rw [← hY] at hcell
        clear hx hlo hhi
        cases hok : okAt b q x with
        | true =>
          have hlo2 : lo ≤ Y ∧ Y ≤ hi := by
            have h1 := HLO.out
            have h2 := HHI.out
            unfold okAt at hok
            simp only [Bool.and_eq_true, decide_eq_true_eq] at hok
            omega
          have d3 : decide (Y < lo) = false := by rw [decide_eq_false_iff_not]; omega
          have d4 : decide (Y > hi) = false := by rw [decide_eq_false_iff_not]; omega
          have d5 : decide (hi < Y) = false := by rw [decide_eq_false_iff_not]; omega
          have HRn := Lib.hid (show runTo b 3 t 1 = runTo b 3 (t.drop (q + 1 - 1)) (q + 1) by
            rw [HRT.out, show q + 1 - 1 = q by omega]
            have := HRA.out
            rw [if_pos ⟨hlt, hok⟩] at this
            exact this)
          clear HRT HRA hok HLO HHI hlo2 hx255 hY
          go_wp2_with fail
          refine HB1.out.mono ?_
          rintro e w1 ⟨rfl, rfl⟩
          clear HB1
          go_wp2_with fail
          go_roundw
          case rel => exact ⟨q + 1, by omega, by omega, by omega, by go_num, HRn, by first | rfl | trivial⟩
          case measure => simp [intOf]; omega
        | false =>
          have hfin : rd b t = (65533, q) := by
            unfold rd
            rw [HS.out, if_neg (by decide), HRT.out]
            have := HRA.out
            rw [if_neg (by rw [hok]; simp)] at this
            rw [this, if_pos hlt]
          have hlo2 : Y < lo ∨ hi < Y := by
            have h1 := HLO.out
            have h2 := HHI.out
            unfold okAt at hok
            simp only [Bool.and_eq_false_iff, decide_eq_false_iff_not] at hok
            omega
          have HFin := Lib.hid (FirstSaid.mk (w := w) hfin)
          clear HRT HRA hok HLO HHI hx255 hY hfin
          by_cases h3 : Y < lo
          · have d3 : decide (Y < lo) = true := decide_eq_true h3
            clear h3 hlo2
            go_wp2_with fail
            refine HB1.out.mono ?_
            rintro e w1 ⟨rfl, rfl⟩
            clear HB1
            go_wp2_with fail
            refine bodyPost_ret (v := .tuple #[.agg #[.int .i64 65533, .int .i64 0, .int .i64 q], .bool false]) (by simp [results, Tryz.results74, go_sem]) rfl ?_
            exact HFin.out _ _ ((Below.refl _ _).alloc (Nat.le_refl _) _)
          · have d3 : decide (Y < lo) = false := decide_eq_false h3
            have d4 : decide (Y > hi) = true := by rw [decide_eq_true_eq]; omega
            have d5 : decide (hi < Y) = true := by rw [decide_eq_true_eq]; omega
            clear h3 hlo2
            go_wp2_with fail
            refine HB1.out.mono ?_
            rintro e w1 ⟨rfl, rfl⟩
            clear HB1
            go_wp2_with fail
            refine bodyPost_ret (v := .tuple #[.agg #[.int .i64 65533, .int .i64 0, .int .i64 q], .bool false]) (by simp [results, Tryz.results74, go_sem]) rfl ?_
            exact HFin.out _ _ ((Below.refl _ _).alloc (Nat.le_refl _) _)
      · have hfin : rd b t = (65533, q) := by
          have hd : t.drop (q - 1) = [] := List.drop_eq_nil_of_le (by have := HNn.out; omega)
          unfold rd
          rw [HS.out, if_neg (by decide), HRT.out, hd]
          show (if q < 3 then _ else _) = _
          rw [if_pos hlt]
          rfl
        have HFin := Lib.hid (FirstSaid.mk (w := w) hfin)
        have dl : decide (q < n) = false := decide_eq_false hqn2
        clear HRT hfin
        go_wp2_with fail
        refine bodyPost_ret (v := .tuple #[.agg #[.int .i64 65533, .int .i64 0, .int .i64 q], .bool false]) (by simp [results, Tryz.results74, go_sem]) rfl ?_
        exact HFin.out _ _ ((Below.refl _ _).alloc (Nat.le_refl _) _)
    · have hqe : q = 3 := by omega
      subst hqe
      have hcp : ∀ R, R = (t.take (3 - 1)).foldl Utf.step f0 → rd b t = (R, 3) := by
        intro R hR
        unfold rd
        rw [HS.out, if_neg (by decide), HRT.out, run0, if_neg (by decide)]
        unfold cpOf
        rw [hR, HF.out]
      have HCP := Lib.hid hcp
      have hne : ¬ c = 1 := by omega
      have hle1 : 3 ≤ n := hqn
      have hle2 : 3 ≤ c := by omega
      clear HRT hcp
      go_wp2_with fail
      go_loopw [9, 72] (fun r i wr => ∃ (k R : Nat), k ≤ 3 - 1 ∧ i = .int .i64 k ∧ r = .int .i64 R ∧ Hid (R = (t.take k).foldl Utf.step f0) ∧ (w.alloc (Obj.cells #[Value.int IntKind.i64 0, Value.int IntKind.i64 0, Value.int IntKind.i64 0] 25)) = wr) (fun _ i _ => 3 - 1 - (intOf i).toNat)
      case atStart => exact ⟨0, f0, Nat.zero_le _, rfl, rfl, rfl, rfl⟩
      case round =>
        obtain ⟨k, R, hk, rfl, rfl, HR, rfl⟩ := hrel
        by_cases hkl : k < 3 - 1
        · have hjt : k < t.length := by have := HNn.out; omega
          obtain ⟨hx255, hcell⟩ := HC.out k hjt
          obtain ⟨x, hx⟩ : ∃ x, x = t[k] := ⟨_, rfl⟩
          rw [← hx] at hcell hx255
          have HTK := Lib.hid (show Utf.step R x = (t.take (k + 1)).foldl Utf.step f0 by
            rw [List.take_succ_eq_append_getElem hjt, List.foldl_append, ← HR.out, ← hx]
            rfl)
          have hR64 : R < 2097152 := by
            have h1 := fold_lt (t.take k) f0
            rw [List.length_take, ← HR.out] at h1
            have h2 : (f0 + 1) * 64 ^ min k t.length ≤ 16 * 64 ^ (3 - 2) := Nat.mul_le_mul (by omega) (Nat.pow_le_pow_right (by decide) (by omega))
            omega
          obtain ⟨Y, hY⟩ : ∃ Y : Int, Y = (x : Nat) := ⟨_, rfl⟩
          rw [← hY] at hcell
          have cx1 : (w.alloc (Obj.cells #[Value.int IntKind.i64 0, Value.int IntKind.i64 0, Value.int IntKind.i64 0] 25)).cell? ((ad.add 1).add k) = some (.int .u8 Y) := by rw [Addr.add_add, Nat.add_comm 1 k]; exact hcell
          have cx3 : (w.alloc (Obj.cells #[Value.int IntKind.i64 0, Value.int IntKind.i64 0, Value.int IntKind.i64 0] 25)).cell? ⟨ad.block, ad.off + 1 + k, none⟩ = some (.int .u8 Y) := by rw [← add_succU]; exact hcell
          have cx2 : (w.alloc (Obj.cells #[Value.int IntKind.i64 0, Value.int IntKind.i64 0, Value.int IntKind.i64 0] 25)).cell? (ad.add (1 + k)) = some (.int .u8 Y) := by rw [Nat.add_comm 1 k]; exact hcell
          have b1 : bits BinOp.and IntKind.u8 Y 63 = ((x % 64 : Nat) : Int) := by rw [hY]; exact and63 x hx255
          have b2 : IntKind.i64.wrap ((x % 64 : Nat) : Int) = ((x % 64 : Nat) : Int) := by rw [IntKind.wrap_i64]; omega
          have b2' : IntKind.i64.wrap ((x : Int) % 64) = (x : Int) % 64 := by rw [IntKind.wrap_i64]; omega
          have b3 : IntKind.i64.wrap ((R : Int) * 64) = (R : Int) * 64 := by rw [IntKind.wrap_i64]; omega
          have b4 : IntKind.i64.wrap ((R : Int) * 64 + ((x % 64 : Nat) : Int)) = ((Utf.step R x : Nat) : Int) := by rw [IntKind.wrap_i64]; unfold Utf.step; omega
          have b4' : IntKind.i64.wrap ((R : Int) * 64 + (x : Int) % 64) = ((Utf.step R x : Nat) : Int) := by rw [IntKind.wrap_i64]; unfold Utf.step; omega
          clear hx hY HR hx255 hcell
          go_wp2_with fail
          go_roundw
          case rel => exact ⟨k + 1, Utf.step R x, by omega, by go_num, rfl, HTK, by first | rfl | trivial⟩
          case measure => simp [intOf]; omega
        · have hke : k = 3 - 1 := by omega
          subst hke
          have HFin := Lib.hid (FirstSaid.mk (w := w) (HCP.out R HR.out))
          clear HR HCP
          go_wp2_with fail
          refine bodyPost_ret (v := .tuple #[.agg #[.int .i64 R, .int .i64 0, .int .i64 3], .bool true]) (by simp [results, Tryz.results74, go_sem]) rfl ?_
          exact HFin.out _ _ ((Below.refl _ _).alloc (Nat.le_refl _) _)
set_option maxRecDepth 100000 in
theorem first4_walk (w : World) (v : Value) (b : Nat) (t : List Nat) (h : BytesAt w v (b :: t)) (hl : t.length ≤ 1000000) (hs : szOf b = 4) : Calls Tryz.prog 74 #[v] w (FirstSaid b t w) := by
  obtain ⟨ad, c, rfl, hnc, hb, c0, hct⟩ := h.some
  rw [add_noneU] at c0
  have hba := alloc_below w (Obj.cells #[Value.int IntKind.i64 0, Value.int IntKind.i64 0, Value.int IntKind.i64 0] 25)
  have HC := Lib.hid (fun (j : Nat) (h : j < t.length) => (⟨(hct j h).1, cell_later hba (hct j h).2⟩ : t[j] ≤ 255 ∧ (w.alloc (Obj.cells #[Value.int IntKind.i64 0, Value.int IntKind.i64 0, Value.int IntKind.i64 0] 25)).cell? (ad.add (j + 1)) = some (.int .u8 (t[j] : Nat))))
  replace c0 := cell_later hba c0
  obtain ⟨n, hn⟩ : ∃ n : Nat, n = t.length + 1 := ⟨_, rfl⟩
  have hn0 : 0 < n := by omega
  rw [← hn] at hnc ⊢
  have HNn := Lib.hid hn
  have HS := Lib.hid hs
  obtain ⟨X0, hX0⟩ : ∃ X : Int, X = (b : Nat) := ⟨_, rfl⟩
  have HSZ := size_walk (w.alloc (Obj.cells #[Value.int IntKind.i64 0, Value.int IntKind.i64 0, Value.int IntKind.i64 0] 25)) b hb
  rw [hs, ← hX0] at HSZ
  replace HSZ := Lib.hid HSZ
  rw [← hX0] at c0
  have HBD := Lib.hid (fun (q : Nat) (h1 : 1 ≤ q) (h2 : q < 4) => (show Calls Tryz.prog 98 #[.int .u8 X0, .int .i64 q] (w.alloc (Obj.cells #[Value.int IntKind.i64 0, Value.int IntKind.i64 0, Value.int IntKind.i64 0] 25)) fun e w' => e = .returned (.tuple #[.int .u8 (loOf b q : Nat), .int .u8 (hiOf b q : Nat), .bool true]) ∧ (w.alloc (Obj.cells #[Value.int IntKind.i64 0, Value.int IntKind.i64 0, Value.int IntKind.i64 0] 25)) = w' from hX0 ▸ bounds_walk (w.alloc (Obj.cells #[Value.int IntKind.i64 0, Value.int IntKind.i64 0, Value.int IntKind.i64 0] 25)) b q hb h1 (by rw [hs]; exact h2)))
  have w1 : IntKind.i64.wrap X0 = X0 := by rw [IntKind.wrap_i64]; omega
  have a1 : bits BinOp.and IntKind.i64 X0 7 = ((first b 4 : Nat) : Int) := by
    rw [hX0, show ((7 : Int)) = (2 : Int) ^ 3 - 1 by decide, and_mask b 3 hb (by decide)]
    unfold first
    rw [if_neg (by decide)]
  have hf0 : first b 4 < 8 := by unfold first; rw [if_neg (by decide)]; exact Nat.mod_lt _ (by decide)
  obtain ⟨f0, hf⟩ : ∃ f, f = first b 4 := ⟨_, rfl⟩
  rw [← hf] at a1 hf0
  have HF := Lib.hid hf
  clear h hct hn hs hX0 hb hf hba
  go_enter Tryz.func74, Tryz.ntmps74
  go_wp2_with fail
  refine HSZ.out.mono ?_
  rintro e w1 ⟨rfl, rfl⟩
  clear HSZ
  go_wp2_with fail
  go_loopw [5] (fun i wr => ∃ q : Nat, 1 ≤ q ∧ q ≤ 4 ∧ q ≤ n ∧ i = .int .i64 q ∧ Hid (runTo b 4 t 1 = runTo b 4 (t.drop (q - 1)) q) ∧ (w.alloc (Obj.cells #[Value.int IntKind.i64 0, Value.int IntKind.i64 0, Value.int IntKind.i64 0] 25)) = wr) (fun i _ => 4 + 1 - (intOf i).toNat)
  case atStart => exact ⟨1, Nat.le_refl _, by omega, by omega, rfl, rfl, rfl⟩
  case round =>
    obtain ⟨q, hq1, hqs, hqn, rfl, HRT, rfl⟩ := hrel
    by_cases hlt : q < 4
    · have hq2 : q ≤ 4 - 1 := by omega
      have dq : decide ((q : Int) < 4) = true := by rw [decide_eq_true_eq]; omega
      by_cases hqn2 : q < n
      · have hjt : q - 1 < t.length := by have := HNn.out; omega
        obtain ⟨hx255, hcell⟩ := HC.out (q - 1) hjt
        have HRA := Lib.hid (read_at hjt b 4)
        rw [show q - 1 + 1 = q by omega] at hcell HRA
        obtain ⟨x, hx⟩ : ∃ x, x = t[q - 1] := ⟨_, rfl⟩
        rw [← hx] at hcell HRA hx255
        have HB1 := HBD.out q hq1 hlt
        obtain ⟨lo, hlo⟩ : ∃ s : Int, s = (loOf b q : Nat) := ⟨_, rfl⟩
        obtain ⟨hi, hhi⟩ : ∃ s : Int, s = (hiOf b q : Nat) := ⟨_, rfl⟩
        rw [← hlo, ← hhi] at HB1
        replace HB1 := Lib.hid HB1
        have HLO := Lib.hid hlo
        have HHI := Lib.hid hhi
        obtain ⟨Y, hY⟩ : ∃ Y : Int, Y = (x : Nat) := ⟨_, rfl⟩
        rw [← hY] at hcell
        clear hx hlo hhi
        cases hok : okAt b q x with
        | true =>
          have hlo2 : lo ≤ Y ∧ Y ≤ hi := by
            have h1 := HLO.out
            have h2 := HHI.out
            unfold okAt at hok
            simp only [Bool.and_eq_true, decide_eq_true_eq] at hok
            omega
          have d3 : decide (Y < lo) = false := by rw [decide_eq_false_iff_not]; omega
          have d4 : decide (Y > hi) = false := by rw [decide_eq_false_iff_not]; omega
          have d5 : decide (hi < Y) = false := by rw [decide_eq_false_iff_not]; omega
          have HRn := Lib.hid (show runTo b 4 t 1 = runTo b 4 (t.drop (q + 1 - 1)) (q + 1) by
            rw [HRT.out, show q + 1 - 1 = q by omega]
            have := HRA.out
            rw [if_pos ⟨hlt, hok⟩] at this
            exact this)
          clear HRT HRA hok HLO HHI hlo2 hx255 hY
          go_wp2_with fail
          refine HB1.out.mono ?_
          rintro e w1 ⟨rfl, rfl⟩
          clear HB1
          go_wp2_with fail
          go_roundw
          case rel => exact ⟨q + 1, by omega, by omega, by omega, by go_num, HRn, by first | rfl | trivial⟩
          case measure => simp [intOf]; omega
        | false =>
          have hfin : rd b t = (65533, q) := by
            unfold rd
            rw [HS.out, if_neg (by decide), HRT.out]
            have := HRA.out
            rw [if_neg (by rw [hok]; simp)] at this
            rw [this, if_pos hlt]
          have hlo2 : Y < lo ∨ hi < Y := by
            have h1 := HLO.out
            have h2 := HHI.out
            unfold okAt at hok
            simp only [Bool.and_eq_false_iff, decide_eq_false_iff_not] at hok
            omega
          have HFin := Lib.hid (FirstSaid.mk (w := w) hfin)
          clear HRT HRA hok HLO HHI hx255 hY hfin
          by_cases h3 : Y < lo
          · have d3 : decide (Y < lo) = true := decide_eq_true h3
            clear h3 hlo2
            go_wp2_with fail
            refine HB1.out.mono ?_
            rintro e w1 ⟨rfl, rfl⟩
            clear HB1
            go_wp2_with fail
            refine bodyPost_ret (v := .tuple #[.agg #[.int .i64 65533, .int .i64 0, .int .i64 q], .bool false]) (by simp [results, Tryz.results74, go_sem]) rfl ?_
            exact HFin.out _ _ ((Below.refl _ _).alloc (Nat.le_refl _) _)
          · have d3 : decide (Y < lo) = false := decide_eq_false h3
            have d4 : decide (Y > hi) = true := by rw [decide_eq_true_eq]; omega
            have d5 : decide (hi < Y) = true := by rw [decide_eq_true_eq]; omega
            clear h3 hlo2
            go_wp2_with fail
            refine HB1.out.mono ?_
            rintro e w1 ⟨rfl, rfl⟩
            clear HB1
            go_wp2_with fail
            refine bodyPost_ret (v := .tuple #[.agg #[.int .i64 65533, .int .i64 0, .int .i64 q], .bool false]) (by simp [results, Tryz.results74, go_sem]) rfl ?_
            exact HFin.out _ _ ((Below.refl _ _).alloc (Nat.le_refl _) _)
      · have hfin : rd b t = (65533, q) := by
          have hd : t.drop (q - 1) = [] := List.drop_eq_nil_of_le (by have := HNn.out; omega)
          unfold rd
          rw [HS.out, if_neg (by decide), HRT.out, hd]
          show (if q < 4 then _ else _) = _
          rw [if_pos hlt]
          rfl
        have HFin := Lib.hid (FirstSaid.mk (w := w) hfin)
        have dl : decide (q < n) = false := decide_eq_false hqn2
        clear HRT hfin
        go_wp2_with fail
        refine bodyPost_ret (v := .tuple #[.agg #[.int .i64 65533, .int .i64 0, .int .i64 q], .bool false]) (by simp [results, Tryz.results74, go_sem]) rfl ?_
        exact HFin.out _ _ ((Below.refl _ _).alloc (Nat.le_refl _) _)
    · have hqe : q = 4 := by omega
      subst hqe
      have hcp : ∀ R, R = (t.take (4 - 1)).foldl Utf.step f0 → rd b t = (R, 4) := by
        intro R hR
        unfold rd
        rw [HS.out, if_neg (by decide), HRT.out, run0, if_neg (by decide)]
        unfold cpOf
        rw [hR, HF.out]
      have HCP := Lib.hid hcp
      have hne : ¬ c = 1 := by omega
      have hle1 : 4 ≤ n := hqn
      have hle2 : 4 ≤ c := by omega
      clear HRT hcp
      go_wp2_with fail
      go_loopw [9, 72] (fun r i wr => ∃ (k R : Nat), k ≤ 4 - 1 ∧ i = .int .i64 k ∧ r = .int .i64 R ∧ Hid (R = (t.take k).foldl Utf.step f0) ∧ (w.alloc (Obj.cells #[Value.int IntKind.i64 0, Value.int IntKind.i64 0, Value.int IntKind.i64 0] 25)) = wr) (fun _ i _ => 4 - 1 - (intOf i).toNat)
      case atStart => exact ⟨0, f0, Nat.zero_le _, rfl, rfl, rfl, rfl⟩
      case round =>
        obtain ⟨k, R, hk, rfl, rfl, HR, rfl⟩ := hrel
        by_cases hkl : k < 4 - 1
        · have hjt : k < t.length := by have := HNn.out; omega
          obtain ⟨hx255, hcell⟩ := HC.out k hjt
          obtain ⟨x, hx⟩ : ∃ x, x = t[k] := ⟨_, rfl⟩
          rw [← hx] at hcell hx255
          have HTK := Lib.hid (show Utf.step R x = (t.take (k + 1)).foldl Utf.step f0 by
            rw [List.take_succ_eq_append_getElem hjt, List.foldl_append, ← HR.out, ← hx]
            rfl)
          have hR64 : R < 2097152 := by
            have h1 := fold_lt (t.take k) f0
            rw [List.length_take, ← HR.out] at h1
            have h2 : (f0 + 1) * 64 ^ min k t.length ≤ 8 * 64 ^ (4 - 2) := Nat.mul_le_mul (by omega) (Nat.pow_le_pow_right (by decide) (by omega))
            omega
          obtain ⟨Y, hY⟩ : ∃ Y : Int, Y = (x : Nat) := ⟨_, rfl⟩
          rw [← hY] at hcell
          have cx1 : (w.alloc (Obj.cells #[Value.int IntKind.i64 0, Value.int IntKind.i64 0, Value.int IntKind.i64 0] 25)).cell? ((ad.add 1).add k) = some (.int .u8 Y) := by rw [Addr.add_add, Nat.add_comm 1 k]; exact hcell
          have cx3 : (w.alloc (Obj.cells #[Value.int IntKind.i64 0, Value.int IntKind.i64 0, Value.int IntKind.i64 0] 25)).cell? ⟨ad.block, ad.off + 1 + k, none⟩ = some (.int .u8 Y) := by rw [← add_succU]; exact hcell
          have cx2 : (w.alloc (Obj.cells #[Value.int IntKind.i64 0, Value.int IntKind.i64 0, Value.int IntKind.i64 0] 25)).cell? (ad.add (1 + k)) = some (.int .u8 Y) := by rw [Nat.add_comm 1 k]; exact hcell
          have b1 : bits BinOp.and IntKind.u8 Y 63 = ((x % 64 : Nat) : Int) := by rw [hY]; exact and63 x hx255
          have b2 : IntKind.i64.wrap ((x % 64 : Nat) : Int) = ((x % 64 : Nat) : Int) := by rw [IntKind.wrap_i64]; omega
          have b2' : IntKind.i64.wrap ((x : Int) % 64) = (x : Int) % 64 := by rw [IntKind.wrap_i64]; omega
          have b3 : IntKind.i64.wrap ((R : Int) * 64) = (R : Int) * 64 := by rw [IntKind.wrap_i64]; omega
          have b4 : IntKind.i64.wrap ((R : Int) * 64 + ((x % 64 : Nat) : Int)) = ((Utf.step R x : Nat) : Int) := by rw [IntKind.wrap_i64]; unfold Utf.step; omega
          have b4' : IntKind.i64.wrap ((R : Int) * 64 + (x : Int) % 64) = ((Utf.step R x : Nat) : Int) := by rw [IntKind.wrap_i64]; unfold Utf.step; omega
          clear hx hY HR hx255 hcell
          go_wp2_with fail
          go_roundw
          case rel => exact ⟨k + 1, Utf.step R x, by omega, by go_num, rfl, HTK, by first | rfl | trivial⟩
          case measure => simp [intOf]; omega
        · have hke : k = 4 - 1 := by omega
          subst hke
          have HFin := Lib.hid (FirstSaid.mk (w := w) (HCP.out R HR.out))
          clear HR HCP
          go_wp2_with fail
          refine bodyPost_ret (v := .tuple #[.agg #[.int .i64 R, .int .i64 0, .int .i64 4], .bool true]) (by simp [results, Tryz.results74, go_sem]) rfl ?_
          exact HFin.out _ _ ((Below.refl _ _).alloc (Nat.le_refl _) _)
set_option maxRecDepth 100000 in
theorem first1_walk (w : World) (v : Value) (b : Nat) (t : List Nat) (h : BytesAt w v (b :: t)) (hl : t.length ≤ 1000000) (hs : szOf b = 1) : Calls Tryz.prog 74 #[v] w (FirstSaid b t w) := by
  obtain ⟨ad, c, rfl, hnc, hb, c0, hct⟩ := h.some
  rw [add_noneU] at c0
  have hba := alloc_below w (Obj.cells #[Value.int IntKind.i64 0, Value.int IntKind.i64 0, Value.int IntKind.i64 0] 25)
  have HC := Lib.hid (fun (j : Nat) (h : j < t.length) => (⟨(hct j h).1, cell_later hba (hct j h).2⟩ : t[j] ≤ 255 ∧ (w.alloc (Obj.cells #[Value.int IntKind.i64 0, Value.int IntKind.i64 0, Value.int IntKind.i64 0] 25)).cell? (ad.add (j + 1)) = some (.int .u8 (t[j] : Nat))))
  replace c0 := cell_later hba c0
  obtain ⟨n, hn⟩ : ∃ n : Nat, n = t.length + 1 := ⟨_, rfl⟩
  have hn0 : 0 < n := by omega
  rw [← hn] at hnc ⊢
  have HNn := Lib.hid hn
  have HS := Lib.hid hs
  obtain ⟨X0, hX0⟩ : ∃ X : Int, X = (b : Nat) := ⟨_, rfl⟩
  have HSZ := size_walk (w.alloc (Obj.cells #[Value.int IntKind.i64 0, Value.int IntKind.i64 0, Value.int IntKind.i64 0] 25)) b hb
  rw [hs, ← hX0] at HSZ
  replace HSZ := Lib.hid HSZ
  rw [← hX0] at c0
  have w1 : IntKind.i64.wrap X0 = (b : Nat) := by rw [IntKind.wrap_i64]; omega
  have hfin : rd b t = (b, 1) := by
    unfold rd
    rw [hs, if_neg (by decide), run0, if_neg (by decide)]
    rfl
  have HFin := Lib.hid (FirstSaid.mk (w := w) hfin)
  clear h hct hn hs hX0 hb hba hfin
  by_cases hc1 : c = 1
  all_goals
    go_enter Tryz.func74, Tryz.ntmps74
    go_wp2_with fail
    refine HSZ.out.mono ?_
    rintro e w1 ⟨rfl, rfl⟩
    clear HSZ
    go_wp2_with fail
    go_loopw [5] (fun i wr => i = .int .i64 1 ∧ (w.alloc (Obj.cells #[Value.int IntKind.i64 0, Value.int IntKind.i64 0, Value.int IntKind.i64 0] 25)) = wr) (fun i _ => 0)
    case atStart => exact ⟨rfl, rfl⟩
    case round =>
      obtain ⟨rfl, rfl⟩ := hrel
      go_wp2_with fail
      go_loopw [9, 72] (fun r i wr => i = .int .i64 0 ∧ r = .int .i64 (b : Nat) ∧ (w.alloc (Obj.cells #[Value.int IntKind.i64 0, Value.int IntKind.i64 0, Value.int IntKind.i64 0] 25)) = wr) (fun _ i _ => 0)
      case atStart => exact ⟨rfl, rfl, rfl⟩
      case round =>
        obtain ⟨rfl, rfl, rfl⟩ := hrel
        go_wp2_with fail
        refine bodyPost_ret (v := .tuple #[.agg #[.int .i64 (b : Nat), .int .i64 0, .int .i64 1], .bool true]) (by simp [results, Tryz.results74, go_sem]) rfl ?_
        exact HFin.out _ _ ((Below.refl _ _).alloc (Nat.le_refl _) _)
set_option maxRecDepth 100000 in
theorem first0_walk (w : World) (v : Value) (b : Nat) (t : List Nat) (h : BytesAt w v (b :: t)) (hl : t.length ≤ 1000000) (hs : szOf b = 0) : Calls Tryz.prog 74 #[v] w (FirstSaid b t w) := by
  obtain ⟨ad, c, rfl, hnc, hb, c0, hct⟩ := h.some
  rw [add_noneU] at c0
  have hba := alloc_below w (Obj.cells #[Value.int IntKind.i64 0, Value.int IntKind.i64 0, Value.int IntKind.i64 0] 25)
  have HC := Lib.hid (fun (j : Nat) (h : j < t.length) => (⟨(hct j h).1, cell_later hba (hct j h).2⟩ : t[j] ≤ 255 ∧ (w.alloc (Obj.cells #[Value.int IntKind.i64 0, Value.int IntKind.i64 0, Value.int IntKind.i64 0] 25)).cell? (ad.add (j + 1)) = some (.int .u8 (t[j] : Nat))))
  replace c0 := cell_later hba c0
  obtain ⟨n, hn⟩ : ∃ n : Nat, n = t.length + 1 := ⟨_, rfl⟩
  have hn0 : 0 < n := by omega
  rw [← hn] at hnc ⊢
  have HNn := Lib.hid hn
  have HS := Lib.hid hs
  obtain ⟨X0, hX0⟩ : ∃ X : Int, X = (b : Nat) := ⟨_, rfl⟩
  have HSZ := size_walk (w.alloc (Obj.cells #[Value.int IntKind.i64 0, Value.int IntKind.i64 0, Value.int IntKind.i64 0] 25)) b hb
  rw [hs, ← hX0] at HSZ
  replace HSZ := Lib.hid HSZ
  rw [← hX0] at c0
  have hfin : rd b t = (65533, 1) := by
    unfold rd
    rw [hs, if_pos rfl]
  have HFin := Lib.hid (FirstSaid.mk (w := w) hfin)
  clear h hct hn hs hX0 hb hba hfin
  go_enter Tryz.func74, Tryz.ntmps74
  go_wp2_with fail
  refine HSZ.out.mono ?_
  rintro e w1 ⟨rfl, rfl⟩
  clear HSZ
  go_wp2_with fail
  refine bodyPost_ret (v := .tuple #[.agg #[.int .i64 65533, .int .i64 0, .int .i64 1], .bool false]) (by simp [results, Tryz.results74, go_sem]) rfl ?_
  exact HFin.out _ _ ((Below.refl _ _).alloc (Nat.le_refl _) _)
theorem first_walk (w : World) (v : Value) (b : Nat) (t : List Nat) (h : BytesAt w v (b :: t)) (hl : t.length ≤ 1000000) : Calls Tryz.prog 74 #[v] w (FirstSaid b t w) := by
  have h4 := szOf_le b
  rcases (by omega : szOf b = 0 ∨ szOf b = 1 ∨ szOf b = 2 ∨ szOf b = 3 ∨ szOf b = 4) with e | e | e | e | e
  · exact first0_walk w v b t h hl e
  · exact first1_walk w v b t h hl e
  · exact first2_walk w v b t h hl e
  · exact first3_walk w v b t h hl e
  · exact first4_walk w v b t h hl e
set_option maxRecDepth 100000 in
theorem decode01_walk (w : World) (v : Value) (bs : List Nat) (h : BytesAt w v bs) (hl : bs.length ≤ 1000000) : Calls Tryz.prog 38 #[v] w (ItemsSaid (dec bs 0) w) := by
  have HA := Lib.hid h
  obtain ⟨A, c, rfl, hnc, hn9, hnone, _⟩ := h
  obtain ⟨n, hn⟩ : ∃ n, n = bs.length := ⟨_, rfl⟩
  rw [← hn] at HA hnc hl hn9 ⊢
  have HNn := Lib.hid hn
  clear hn
  go_enter Tryz.func38, Tryz.ntmps38
  go_wp2_with fail
  go_loopw [3, 4] (fun vo i wr => ∃ (q : Nat) (ps : List It), q ≤ n ∧ i = .int .i64 q ∧ Hid (ItemsAt wr w.heap.size vo ps) ∧ Hid (ps ++ dec (bs.drop q) q = dec bs 0) ∧ ps.length ≤ q ∧ Hid (Below w.heap.size w wr)) (fun _ i _ => n - (intOf i).toNat)
  case atStart => exact ⟨0, [], by omega, rfl, World.ownsRow_nil _ _ _ _, rfl, by simp, Below.refl _ _⟩
  case round =>
    obtain ⟨q, ps, hq, rfl, HO, HD, hpl, HB⟩ := hrel
    by_cases hlt : q < n
    · cases A with
      | none => have := hnone rfl; omega
      | some ad =>
        obtain ⟨b, t, hd, htl, hbt⟩ := bytes_from (HA.out.below HB.out) hlt
        have hne : ¬ c = q := by omega
        obtain ⟨r, hr⟩ : ∃ r, r = (rd b t).1 := ⟨_, rfl⟩
        obtain ⟨m, hm2⟩ : ∃ m, m = (rd b t).2 := ⟨_, rfl⟩
        have HBT := Lib.hid (first_walk wr _ b t hbt (by have := HNn.out; omega))
        have hrn := rd_n b t
        have hdc := dec_cons b t q
        unfold FirstSaid at HBT
        rw [← hr, ← hm2] at HBT hdc
        rw [← hm2] at hrn
        have hqm : q + m ≤ n := by
          have h1 : (bs.drop q).length = bs.length - q := List.length_drop
          rw [hd, List.length_cons] at h1
          have := HNn.out
          omega
        have hm1 := hrn.1
        obtain ⟨E, hE⟩ : ∃ E : Int, E = (q : Int) + (m : Int) := ⟨_, rfl⟩
        have w2 : IntKind.i64.wrap ((q : Int) + (m : Int)) = E := by rw [IntKind.wrap_i64, hE]; omega
        have HE := Lib.hid (show E = ((q + m : Nat) : Int) by rw [hE]; omega)
        have HDC := Lib.hid (show (ps ++ [(⟨(r : Nat), (q : Nat), E⟩ : It)]) ++ dec (bs.drop (q + m)) (q + m) = dec bs 0 by
          rw [← HD.out, hd, hdc, HE.out, List.append_assoc, ← hd, List.drop_drop]
          rfl)
        obtain ⟨Ao, co, hvo⟩ := own_slice HO.out
        subst hvo
        clear hbt hd hr hm2 hrn hdc hE htl HD
        go_wp2_with fail
        refine HBT.out.mono ?_
        rintro e w1 ⟨⟨ok, rfl⟩, hb1⟩
        replace HB := Lib.hid (HB.out.trans (hb1.mono HB.out.size))
        replace HO := Lib.hid (show w1.ownsRow w.heap.size 25 3 (.slice Ao ps.length co) ps.length (ps.flatMap itCells) from own_below HO.out hb1)
        clear HBT hb1
        have hba := alloc_below w1 (Obj.cells #[.int .i64 (r : Nat), .int .i64 q, .int .i64 E] 25)
        have HX := Lib.hid (show Blk (w1.alloc (Obj.cells #[.int .i64 (r : Nat), .int .i64 q, .int .i64 E] 25)) w1.heap.size 25 #[.int .i64 (r : Nat), .int .i64 q, .int .i64 E] from row_new _ _)
        have HO1 := Lib.hid (show (w1.alloc (Obj.cells #[.int .i64 (r : Nat), .int .i64 q, .int .i64 E] 25)).ownsRow w.heap.size 25 3 (.slice Ao ps.length co) ps.length (ps.flatMap itCells) from own_below HO.out hba)
        have HB1 := Lib.hid (HB.out.trans (hba.mono HB.out.size))
        have HNE := Lib.hid (show some w1.heap.size ≠ (Value.slice Ao ps.length co).ownBlock from fun e => by have := (own_lt HO.out w1.heap.size e.symm).2; omega)
        clear hba HO HB
        go_upto_region 6 with fail
        generalize w1.alloc _ = W1 at *
        generalize w1.heap.size = xb at *
        have x0 := HX.out.cell 0
        have x1 := HX.out.cell 1
        have x2 := HX.out.cell 2
        go_wp2_with (at_builtin; refine wp_append_lit slItem rfl (.tmp 25) (.tmp 27) rfl w.heap.size (.slice Ao ps.length co) ps.length (ps.flatMap itCells) rfl (by exact HO1.out) #[.int .i64 (r : Nat), .int .i64 q, .int .i64 E] rfl rfl (by simp [Value.oneCell']) (by omega) (by exact HB1.out.size) ?_; intro v6 w6 hown6 hg6; have cx6 : w6.cell? ⟨xb, 2, none⟩ = some (.int .i64 E) := (HX.out.grown hg6 HNE.out).cell 2; have HO6 := Lib.hid hown6; have HB6 := Lib.hid (HB1.out.grown hg6 HB1.out.size (fun k hk => (own_lt HO1.out k hk).1)); clear hown6 hg6)
        go_roundw
        case rel => exact ⟨q + m, ps ++ [(⟨(r : Nat), (q : Nat), E⟩ : It)], hqm, by rw [HE.out], (show ItemsAt _ _ _ _ by
          unfold ItemsAt
          rw [List.length_append, List.flatMap_append]
          exact HO6.out), HDC, by rw [List.length_append]; simp; omega, HB6⟩
        case measure => rw [HE.out]; simp [intOf]; omega
    · have hqe : q = n := by omega
      have HF := Lib.hid (show ItemsAt wr w.heap.size _ (dec bs 0) by
        have h1 := HD.out
        have h2 : bs.drop q = [] := List.drop_eq_nil_of_le (by have := HNn.out; omega)
        rw [h2, dec_nil, List.append_nil] at h1
        rw [← h1]
        exact HO.out)
      clear HO HD hqe
      go_wp2_with fail
      go_ret
      exact ⟨_, rfl, HF.out, HB.out⟩
end Go.Proofs.YthoegenipbohmaaGreatDoor
