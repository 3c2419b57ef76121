/- utf.read, utf.Decode; rubricatorref01: bounds, first, Decode, Encode. -/
import Derived.Test.YthoegenipbohmaaGreatDoorUtfW
namespace Go.Proofs.YthoegenipbohmaaGreatDoor
open Go.RowKit Utf
set_option linter.unusedVariables false
set_option linter.unusedSimpArgs false

set_option maxRecDepth 100000 in
set_option maxHeartbeats 800000 in
theorem bounds_walk (w : World) (b i : Nat) (hb : b ≤ 255) (h1 : 1 ≤ i) (h2 : i < szOf b) : Calls Tryz.prog 98 #[.int .u8 b, .int .i64 i] w fun e w' => e = .returned (.tuple #[.int .u8 (loOf b i : Nat), .int .u8 (hiOf b i : Nat), .bool true]) ∧ w = w' := by
  have HS := Lib.hid (size_walk w b hb)
  obtain ⟨lo, hlo⟩ : ∃ s : Int, s = (loOf b i : Nat) := ⟨_, rfl⟩
  obtain ⟨hi, hhi⟩ : ∃ s : Int, s = (hiOf b i : Nat) := ⟨_, rfl⟩
  obtain ⟨s, hs⟩ : ∃ s : Int, s = (szOf b : Nat) := ⟨_, rfl⟩
  obtain ⟨x, hx⟩ : ∃ x : Int, x = (b : Nat) := ⟨_, rfl⟩
  obtain ⟨y, hy⟩ : ∃ x : Int, x = (i : Nat) := ⟨_, rfl⟩
  have f1 : (y ≠ 1 ∧ lo = 128 ∧ hi = 191) ∨ (y = 1 ∧ x = 224 ∧ lo = 160 ∧ hi = 191) ∨ (y = 1 ∧ x = 240 ∧ lo = 144 ∧ hi = 191) ∨ (y = 1 ∧ x = 237 ∧ lo = 128 ∧ hi = 159) ∨ (y = 1 ∧ x = 244 ∧ lo = 128 ∧ hi = 143) ∨ (y = 1 ∧ x ≠ 224 ∧ x ≠ 240 ∧ x ≠ 237 ∧ x ≠ 244 ∧ lo = 128 ∧ hi = 191) := by
    rw [hlo, hhi, hx, hy]
    unfold loOf hiOf
    by_cases e : i = 1
    · subst e
      rw [if_pos rfl, if_pos rfl]
      (repeat' split) <;> omega
    · rw [if_neg e, if_neg e]
      left
      omega
  have hlt : 1 ≤ y ∧ y < s := by omega
  rw [← hs, ← hx] at HS
  rw [← hlo, ← hhi, ← hx, ← hy]
  clear hlo hhi hs hx hy h1 h2 hb
  have d1 : decide (y < 1) = false := by rw [decide_eq_false_iff_not]; omega
  have d2 : decide (y ≥ s) = false := by rw [decide_eq_false_iff_not]; omega
  have d3 : decide (s ≤ y) = false := by rw [decide_eq_false_iff_not]; omega
  clear hlt
  rcases f1 with ⟨g, rfl, rfl⟩ | ⟨rfl, rfl, rfl, rfl⟩ | ⟨rfl, rfl, rfl, rfl⟩ | ⟨rfl, rfl, rfl, rfl⟩ | ⟨rfl, rfl, rfl, rfl⟩ | ⟨rfl, g1, g2, g3, g4, rfl, rfl⟩
  case inl => have b0 : (y == 1) = false := by simpa using g
              go_enter Tryz.func98, Tryz.ntmps98
              go_wp2_with fail
              refine HS.out.mono ?_
              rintro e w1 ⟨rfl, rfl⟩
              clear HS
              go_wp2_with fail
              (refine bodyPost_ret (by simp [results, Tryz.results98, go_sem]; rfl) rfl ?_)
              exact ⟨rfl, rfl⟩
  case inr.inr.inr.inr.inr =>
              have b1 : (x == 224) = false := by simpa using g1
              have b2 : (x == 240) = false := by simpa using g2
              have b3 : (x == 237) = false := by simpa using g3
              have b4 : (x == 244) = false := by simpa using g4
              go_enter Tryz.func98, Tryz.ntmps98
              go_wp2_with fail
              refine HS.out.mono ?_
              rintro e w1 ⟨rfl, rfl⟩
              clear HS
              go_wp2_with fail
              (refine bodyPost_ret (by simp [results, Tryz.results98, go_sem]; rfl) rfl ?_)
              exact ⟨rfl, rfl⟩
  all_goals
    go_enter Tryz.func98, Tryz.ntmps98
    go_wp2_with fail
    refine HS.out.mono ?_
    rintro e w1 ⟨rfl, rfl⟩
    clear HS
    go_wp2_with fail
    (refine bodyPost_ret (by simp [results, Tryz.results98, go_sem]; rfl) rfl ?_)
    exact ⟨rfl, rfl⟩
theorem and_mask (b i : Nat) (h : b ≤ 255) (hi : i ≤ 8) : bits .and .i64 (b : Int) ((2 : Int) ^ i - 1) = ((b % 2 ^ i : Nat) : Int) := by
  have := bits_mask .i64 63 (by decide) (fun n h₀ h₁ => by rw [IntKind.wrap_i64]; omega) i (by omega) (b : Int) (by omega) (by omega)
  rw [this]
  simp
theorem read_at {t : List Nat} {k : Nat} (h : k < t.length) (b sz : Nat) : runTo b sz (t.drop k) (k + 1) = if k + 1 < sz ∧ okAt b (k + 1) t[k] = true then runTo b sz (t.drop (k + 1)) (k + 1 + 1) else k + 1 := by
  rw [List.drop_eq_getElem_cons h]
  rfl
def ReadSaid (b : Nat) (t : List Nat) (w : World) (e : Ending) (w' : World) : Prop := (∃ ok, e = .returned (.tuple #[.int .i64 ((rd b t).1 : Nat), .int .i64 ((rd b t).2 : Nat), .bool ok])) ∧ Below w.heap.size w w'
theorem ReadSaid.mk {b : Nat} {t : List Nat} {w w' : World} {r n : Nat} (h : rd b t = (r, n)) (hb : Below w.heap.size w w') (ok : Bool) : ReadSaid b t w (.returned (.tuple #[.int .i64 r, .int .i64 n, .bool ok])) w' := by
  unfold ReadSaid
  rw [h]
  exact ⟨⟨ok, rfl⟩, hb⟩
theorem and63 (x : Nat) (h : x ≤ 255) : bits .and .u8 (x : Int) 63 = ((x % 64 : Nat) : Int) := by
  have := bits_mask .u8 8 (by decide) (fun n h₀ h₁ => by
    have h1 : (2 : Int) ^ 8 = 256 := by decide
    simp only [IntKind.wrap, IntKind.bits, IntKind.signed]
    simp
    omega) 6 (by omega) (x : Int) (by omega) (by omega)
  have e : ((2 : Int) ^ 6 - 1) = 63 := by decide
  rw [e] at this
  rw [this]
  omega
theorem or64 (R x : Nat) (h : R < 2097152) : bits .or .i64 ((R : Int) * 64) ((x % 64 : Nat) : Int) = ((Utf.step R x : Nat) : Int) := by
  have e := bits_join .i64 63 (by decide) (fun n h₀ h₁ => by rw [IntKind.wrap_i64]; omega) 6 ((R : Int) * 64) ((x % 64 : Nat) : Int) (by omega) (by omega) (by omega) (by omega) (by omega) (by omega)
  rw [e]
  unfold Utf.step
  omega
set_option maxRecDepth 100000 in
theorem read2_walk (w : World) (v : Value) (b : Nat) (t : List Nat) (h : BytesAt w v (b :: t)) (hl : t.length ≤ 1000000) (hs : szOf b = 2) : Calls Tryz.prog 117 #[v] w (ReadSaid b t w) := by
  obtain ⟨ad, c, rfl, hnc, hb, c0, hct⟩ := h.some
  rw [add_noneU] at c0
  have HT := Lib.hid (tail_walk w b hb)
  have HC := Lib.hid hct
  obtain ⟨n, hn⟩ : ∃ n : Nat, n = t.length + 1 := ⟨_, rfl⟩
  have hn0 : 0 < n := by omega
  rw [← hn] at hnc ⊢
  have HNn := Lib.hid hn
  have HS := Lib.hid hs
  obtain ⟨X0, hX0⟩ : ∃ X : Int, X = (b : Nat) := ⟨_, rfl⟩
  have h128 : 128 ≤ b := by
    have : ¬ b ≤ 127 := fun h => by unfold szOf at hs; rw [if_pos h] at hs; omega
    omega
  rw [← hX0] at c0 HT
  have d1 : decide (X0 < 128) = false := by rw [decide_eq_false_iff_not]; omega
  have w1 : IntKind.i64.wrap X0 = X0 := by rw [IntKind.wrap_i64]; omega
  have a1 : bits BinOp.and IntKind.i64 X0 31 = ((first b 2 : Nat) : Int) := by
    rw [hX0, show ((31 : Int)) = (2 : Int) ^ 5 - 1 by decide, and_mask b 5 hb (by decide)]
    unfold first
    rw [if_neg (by decide)]
  have hf0 : first b 2 < 32 := by unfold first; rw [if_neg (by decide)]; exact Nat.mod_lt _ (by decide)
  obtain ⟨f0, hf⟩ : ∃ f, f = first b 2 := ⟨_, rfl⟩
  rw [← hf] at a1 hf0
  have HF := Lib.hid hf
  clear h hct hn hs hX0 h128 hb hf
  go_enter Tryz.func117, Tryz.ntmps117
  go_wp2_with fail
  go_step3
  go_wp2_with fail
  refine HT.out.mono ?_
  rintro e w1 ⟨⟨lo, hi, N, rfl, hlh⟩, rfl⟩
  obtain ⟨hN, hlo, hhi⟩ : N = 1 ∧ lo = (loOf b 1 : Nat) ∧ hi = (hiOf b 1 : Nat) := by
    have := HS.out
    rcases hlh with ⟨h, _⟩ | ⟨_, h1, h2, h3⟩
    · omega
    · exact ⟨by rw [h1, this]; rfl, h2, h3⟩
  subst hN
  have HLO := Lib.hid hlo
  have HHI := Lib.hid hhi
  clear HT hlh hlo hhi
  go_wp2_with fail
  go_quiet (fail)
  simp only [Exit.then]
  obtain ⟨wd, hwd⟩ : ∃ wd, wd = w.drewN nq := ⟨_, rfl⟩
  have HB := Lib.hid (show Below w.heap.size w wd from hwd ▸ below_drewN w nq)
  rw [← hwd]
  clear hwd c0 d1 w1 a1
  go_wp2_with fail
  go_step3
  go_wp2_with fail
  go_loopw [5, 6, 8, 9] (fun l h r i wr => ∃ (q R : Nat) (lo hi : Int), 1 ≤ q ∧ q ≤ 2 ∧ q ≤ n ∧ l = .int .u8 lo ∧ h = .int .u8 hi ∧ r = .int .i64 R ∧ i = .int .i64 q ∧ Hid (lo = (loOf b q : Nat)) ∧ Hid (hi = (hiOf b q : Nat)) ∧ Hid (R = (t.take (q - 1)).foldl Utf.step f0) ∧ Hid (runTo b 2 t 1 = runTo b 2 (t.drop (q - 1)) q) ∧ Hid (Below w.heap.size w wr)) (fun _ _ _ i _ => 2 + 1 - (intOf i).toNat)
  case atStart => exact ⟨1, f0, lo, hi, Nat.le_refl _, by omega, by omega, rfl, rfl, rfl, rfl, HLO, HHI, rfl, rfl, HB⟩
  case round =>
    clear HB HLO HHI
    obtain ⟨q, R, lo, hi, hq1, hqs, hqn, rfl, rfl, rfl, rfl, HLO, HHI, HR, HRT, HB⟩ := hrel
    have HRl := Lib.hid (show R < 32 * 64 ^ (q - 1) by
      have h1 := fold_lt (t.take (q - 1)) f0
      rw [List.length_take, ← HR.out] at h1
      have h2 : (f0 + 1) * 64 ^ min (q - 1) t.length ≤ 32 * 64 ^ (q - 1) := Nat.mul_le_mul (by omega) (Nat.pow_le_pow_right (by decide) (by omega))
      omega)
    by_cases hlt : q < 2
    · have hq2 : q ≤ 1 := by omega
      have dq : decide ((q : Int) ≤ 1) = true := by rw [decide_eq_true_eq]; omega
      by_cases hqn2 : q < n
      · have hjt : q - 1 < t.length := by have := HNn.out; omega
        obtain ⟨hx255, hcell⟩ := HC.out (q - 1) hjt
        have HRA := Lib.hid (read_at hjt b 2)
        rw [show q - 1 + 1 = q by omega] at hcell HRA
        obtain ⟨x, hx⟩ : ∃ x, x = t[q - 1] := ⟨_, rfl⟩
        rw [← hx] at hcell HRA hx255
        have hTK := Lib.hid (show (t.take (q + 1 - 1)).foldl Utf.step f0 = Utf.step R x by
          rw [show q + 1 - 1 = (q - 1) + 1 by omega, List.take_succ_eq_append_getElem hjt, List.foldl_append, ← HR.out, ← hx]
          rfl)
        obtain ⟨Y, hY⟩ : ∃ Y : Int, Y = (x : Nat) := ⟨_, rfl⟩
        rw [← hY] at hcell
        have cx : wr.cell? (ad.add q) = some (.int .u8 Y) := cell_later HB.out hcell
        clear hcell hx
        cases hok : okAt b q x with
        | true =>
          have hlo2 : lo ≤ Y ∧ Y ≤ hi := by
            have h1 := HLO.out
            have h2 := HHI.out
            unfold okAt at hok
            simp only [Bool.and_eq_true, decide_eq_true_eq] at hok
            omega
          have d3 : decide (Y < lo) = false := by rw [decide_eq_false_iff_not]; omega
          have d4 : decide (Y > hi) = false := by rw [decide_eq_false_iff_not]; omega
          have d5 : decide (hi < Y) = false := by rw [decide_eq_false_iff_not]; omega
          have hR64 : R < 2097152 := by
            have h1 := HRl.out
            have h2 : 32 * 64 ^ (q - 1) ≤ 32 * 64 ^ (2 - 2) := Nat.mul_le_mul_left _ (Nat.pow_le_pow_right (by decide) (by omega))
            omega
          have b1 : bits BinOp.and IntKind.u8 Y 63 = ((x % 64 : Nat) : Int) := by rw [hY]; exact and63 x hx255
          have b2 : IntKind.i64.wrap ((x % 64 : Nat) : Int) = ((x % 64 : Nat) : Int) := by rw [IntKind.wrap_i64]; omega
          have b2' : IntKind.i64.wrap ((x : Int) % 64) = ((x % 64 : Nat) : Int) := by rw [IntKind.wrap_i64]; omega
          have b3 : IntKind.i64.wrap ((R : Int) * 64) = (R : Int) * 64 := by rw [IntKind.wrap_i64]; omega
          have b4 : bits BinOp.or IntKind.i64 ((R : Int) * 64) ((x % 64 : Nat) : Int) = ((Utf.step R x : Nat) : Int) := or64 R x hR64
          have b4' : bits BinOp.or IntKind.i64 ((R : Int) * 64) ((x : Int) % 64) = ((Utf.step R x : Nat) : Int) := by rw [show ((x : Int) % 64) = ((x % 64 : Nat) : Int) by omega]; exact or64 R x hR64
          have HRn := Lib.hid (show runTo b 2 t 1 = runTo b 2 (t.drop (q + 1 - 1)) (q + 1) by
            rw [HRT.out, show q + 1 - 1 = q by omega]
            have := HRA.out
            rw [if_pos ⟨hlt, hok⟩] at this
            exact this)
          have HL1 := Lib.hid (lo1 b (q + 1) (by omega))
          clear HRT HRA hok HLO HHI hlo2 hx255 hY HRl HR
          go_wp2_with fail
          go_roundw
          case rel => exact ⟨q + 1, Utf.step R x, 128, 191, by omega, by omega, by omega, rfl, rfl, rfl, by go_num, by show _ = _; rw [HL1.out.1]; rfl, by show _ = _; rw [HL1.out.2]; rfl, hTK.out.symm, HRn, HB⟩
          case measure => simp [intOf]; omega
        | false =>
          have hfin : rd b t = (65533, q) := by
            unfold rd
            rw [HS.out, if_neg (by decide), HRT.out]
            have := HRA.out
            rw [if_neg (by rw [hok]; simp)] at this
            rw [this, if_pos hlt]
          have hlo2 : Y < lo ∨ hi < Y := by
            have h1 := HLO.out
            have h2 := HHI.out
            unfold okAt at hok
            simp only [Bool.and_eq_false_iff, decide_eq_false_iff_not] at hok
            omega
          have HFin := Lib.hid (ReadSaid.mk hfin HB.out)
          clear HRT HRA hok HLO HHI hx255 hY HRl HR hTK hfin
          by_cases h3 : Y < lo
          · have d3 : decide (Y < lo) = true := decide_eq_true h3
            clear h3 hlo2
            go_wp2_with fail
            (refine bodyPost_ret (by simp [results, Tryz.results117, go_sem]; rfl) rfl ?_)
            exact HFin.out _
          · have d3 : decide (Y < lo) = false := decide_eq_false h3
            have d4 : decide (Y > hi) = true := by rw [decide_eq_true_eq]; omega
            have d5 : decide (hi < Y) = true := by rw [decide_eq_true_eq]; omega
            clear h3 hlo2
            go_wp2_with fail
            (refine bodyPost_ret (by simp [results, Tryz.results117, go_sem]; rfl) rfl ?_)
            exact HFin.out _
      · have hqe : q = n := by omega
        have hfin : rd b t = (65533, q) := by
          have hd : t.drop (q - 1) = [] := List.drop_eq_nil_of_le (by have := HNn.out; omega)
          unfold rd
          rw [HS.out, if_neg (by decide), HRT.out, hd]
          show (if q < 2 then _ else _) = _
          rw [if_pos hlt]
          rfl
        have HFin := Lib.hid (ReadSaid.mk hfin HB.out)
        have dl : decide (q < n) = false := decide_eq_false hqn2
        clear HRT HLO HHI HRl HR hfin hqe
        go_wp2_with fail
        (refine bodyPost_ret (by simp [results, Tryz.results117, go_sem]; rfl) rfl ?_)
        exact HFin.out _
    · have hqe : q = 2 := by omega
      subst hqe
      have hfin : rd b t = (R, 2) := by
        unfold rd
        rw [HS.out, if_neg (by decide), HRT.out, run0, if_neg (by decide)]
        unfold cpOf
        rw [HR.out, HF.out]
      have HFin := Lib.hid (ReadSaid.mk hfin HB.out)
      clear HRT HLO HHI HRl HR hfin
      go_wp2_with fail
      (refine bodyPost_ret (by simp [results, Tryz.results117, go_sem]; rfl) rfl ?_)
      exact HFin.out _
set_option maxRecDepth 100000 in
theorem read3_walk (w : World) (v : Value) (b : Nat) (t : List Nat) (h : BytesAt w v (b :: t)) (hl : t.length ≤ 1000000) (hs : szOf b = 3) : Calls Tryz.prog 117 #[v] w (ReadSaid b t w) := by
  obtain ⟨ad, c, rfl, hnc, hb, c0, hct⟩ := h.some
  rw [add_noneU] at c0
  have HT := Lib.hid (tail_walk w b hb)
  have HC := Lib.hid hct
  obtain ⟨n, hn⟩ : ∃ n : Nat, n = t.length + 1 := ⟨_, rfl⟩
  have hn0 : 0 < n := by omega
  rw [← hn] at hnc ⊢
  have HNn := Lib.hid hn
  have HS := Lib.hid hs
  obtain ⟨X0, hX0⟩ : ∃ X : Int, X = (b : Nat) := ⟨_, rfl⟩
  have h128 : 128 ≤ b := by
    have : ¬ b ≤ 127 := fun h => by unfold szOf at hs; rw [if_pos h] at hs; omega
    omega
  rw [← hX0] at c0 HT
  have d1 : decide (X0 < 128) = false := by rw [decide_eq_false_iff_not]; omega
  have w1 : IntKind.i64.wrap X0 = X0 := by rw [IntKind.wrap_i64]; omega
  have a1 : bits BinOp.and IntKind.i64 X0 15 = ((first b 3 : Nat) : Int) := by
    rw [hX0, show ((15 : Int)) = (2 : Int) ^ 4 - 1 by decide, and_mask b 4 hb (by decide)]
    unfold first
    rw [if_neg (by decide)]
  have hf0 : first b 3 < 16 := by unfold first; rw [if_neg (by decide)]; exact Nat.mod_lt _ (by decide)
  obtain ⟨f0, hf⟩ : ∃ f, f = first b 3 := ⟨_, rfl⟩
  rw [← hf] at a1 hf0
  have HF := Lib.hid hf
  clear h hct hn hs hX0 h128 hb hf
  go_enter Tryz.func117, Tryz.ntmps117
  go_wp2_with fail
  go_step3
  go_wp2_with fail
  refine HT.out.mono ?_
  rintro e w1 ⟨⟨lo, hi, N, rfl, hlh⟩, rfl⟩
  obtain ⟨hN, hlo, hhi⟩ : N = 2 ∧ lo = (loOf b 1 : Nat) ∧ hi = (hiOf b 1 : Nat) := by
    have := HS.out
    rcases hlh with ⟨h, _⟩ | ⟨_, h1, h2, h3⟩
    · omega
    · exact ⟨by rw [h1, this]; rfl, h2, h3⟩
  subst hN
  have HLO := Lib.hid hlo
  have HHI := Lib.hid hhi
  clear HT hlh hlo hhi
  go_wp2_with fail
  go_quiet (fail)
  simp only [Exit.then]
  obtain ⟨wd, hwd⟩ : ∃ wd, wd = w.drewN nq := ⟨_, rfl⟩
  have HB := Lib.hid (show Below w.heap.size w wd from hwd ▸ below_drewN w nq)
  rw [← hwd]
  clear hwd c0 d1 w1 a1
  go_wp2_with fail
  go_step3
  go_wp2_with fail
  go_loopw [5, 6, 8, 9] (fun l h r i wr => ∃ (q R : Nat) (lo hi : Int), 1 ≤ q ∧ q ≤ 3 ∧ q ≤ n ∧ l = .int .u8 lo ∧ h = .int .u8 hi ∧ r = .int .i64 R ∧ i = .int .i64 q ∧ Hid (lo = (loOf b q : Nat)) ∧ Hid (hi = (hiOf b q : Nat)) ∧ Hid (R = (t.take (q - 1)).foldl Utf.step f0) ∧ Hid (runTo b 3 t 1 = runTo b 3 (t.drop (q - 1)) q) ∧ Hid (Below w.heap.size w wr)) (fun _ _ _ i _ => 3 + 1 - (intOf i).toNat)
  case atStart => exact ⟨1, f0, lo, hi, Nat.le_refl _, by omega, by omega, rfl, rfl, rfl, rfl, HLO, HHI, rfl, rfl, HB⟩
  case round =>
    clear HB HLO HHI
    obtain ⟨q, R, lo, hi, hq1, hqs, hqn, rfl, rfl, rfl, rfl, HLO, HHI, HR, HRT, HB⟩ := hrel
    have HRl := Lib.hid (show R < 16 * 64 ^ (q - 1) by
      have h1 := fold_lt (t.take (q - 1)) f0
      rw [List.length_take, ← HR.out] at h1
      have h2 : (f0 + 1) * 64 ^ min (q - 1) t.length ≤ 16 * 64 ^ (q - 1) := Nat.mul_le_mul (by omega) (Nat.pow_le_pow_right (by decide) (by omega))
      omega)
    by_cases hlt : q < 3
    · have hq2 : q ≤ 2 := by omega
      have dq : decide ((q : Int) ≤ 2) = true := by rw [decide_eq_true_eq]; omega
      by_cases hqn2 : q < n
      · have hjt : q - 1 < t.length := by have := HNn.out; omega
        obtain ⟨hx255, hcell⟩ := HC.out (q - 1) hjt
        have HRA := Lib.hid (read_at hjt b 3)
        rw [show q - 1 + 1 = q by omega] at hcell HRA
        obtain ⟨x, hx⟩ : ∃ x, x = t[q - 1] := ⟨_, rfl⟩
        rw [← hx] at hcell HRA hx255
        have hTK := Lib.hid (show (t.take (q + 1 - 1)).foldl Utf.step f0 = Utf.step R x by
          rw [show q + 1 - 1 = (q - 1) + 1 by omega, List.take_succ_eq_append_getElem hjt, List.foldl_append, ← HR.out, ← hx]
          rfl)
        obtain ⟨Y, hY⟩ : ∃ Y : Int, Y = (x : Nat) := ⟨_, rfl⟩
        rw [← hY] at hcell
        have cx : wr.cell? (ad.add q) = some (.int .u8 Y) := cell_later HB.out hcell
        clear hcell hx
        cases hok : okAt b q x with
        | true =>
          have hlo2 : lo ≤ Y ∧ Y ≤ hi := by
            have h1 := HLO.out
            have h2 := HHI.out
            unfold okAt at hok
            simp only [Bool.and_eq_true, decide_eq_true_eq] at hok
            omega
          have d3 : decide (Y < lo) = false := by rw [decide_eq_false_iff_not]; omega
          have d4 : decide (Y > hi) = false := by rw [decide_eq_false_iff_not]; omega
          have d5 : decide (hi < Y) = false := by rw [decide_eq_false_iff_not]; omega
          have hR64 : R < 2097152 := by
            have h1 := HRl.out
            have h2 : 16 * 64 ^ (q - 1) ≤ 16 * 64 ^ (3 - 2) := Nat.mul_le_mul_left _ (Nat.pow_le_pow_right (by decide) (by omega))
            omega
          have b1 : bits BinOp.and IntKind.u8 Y 63 = ((x % 64 : Nat) : Int) := by rw [hY]; exact and63 x hx255
          have b2 : IntKind.i64.wrap ((x % 64 : Nat) : Int) = ((x % 64 : Nat) : Int) := by rw [IntKind.wrap_i64]; omega
          have b2' : IntKind.i64.wrap ((x : Int) % 64) = ((x % 64 : Nat) : Int) := by rw [IntKind.wrap_i64]; omega
          have b3 : IntKind.i64.wrap ((R : Int) * 64) = (R : Int) * 64 := by rw [IntKind.wrap_i64]; omega
          have b4 : bits BinOp.or IntKind.i64 ((R : Int) * 64) ((x % 64 : Nat) : Int) = ((Utf.step R x : Nat) : Int) := or64 R x hR64
          have b4' : bits BinOp.or IntKind.i64 ((R : Int) * 64) ((x : Int) % 64) = ((Utf.step R x : Nat) : Int) := by rw [show ((x : Int) % 64) = ((x % 64 : Nat) : Int) by omega]; exact or64 R x hR64
          have HRn := Lib.hid (show runTo b 3 t 1 = runTo b 3 (t.drop (q + 1 - 1)) (q + 1) by
            rw [HRT.out, show q + 1 - 1 = q by omega]
            have := HRA.out
            rw [if_pos ⟨hlt, hok⟩] at this
            exact this)
          have HL1 := Lib.hid (lo1 b (q + 1) (by omega))
          clear HRT HRA hok HLO HHI hlo2 hx255 hY HRl HR
          go_wp2_with fail
          go_roundw
          case rel => exact ⟨q + 1, Utf.step R x, 128, 191, by omega, by omega, by omega, rfl, rfl, rfl, by go_num, by show _ = _; rw [HL1.out.1]; rfl, by show _ = _; rw [HL1.out.2]; rfl, hTK.out.symm, HRn, HB⟩
          case measure => simp [intOf]; omega
        | false =>
          have hfin : rd b t = (65533, q) := by
            unfold rd
            rw [HS.out, if_neg (by decide), HRT.out]
            have := HRA.out
            rw [if_neg (by rw [hok]; simp)] at this
            rw [this, if_pos hlt]
          have hlo2 : Y < lo ∨ hi < Y := by
            have h1 := HLO.out
            have h2 := HHI.out
            unfold okAt at hok
            simp only [Bool.and_eq_false_iff, decide_eq_false_iff_not] at hok
            omega
          have HFin := Lib.hid (ReadSaid.mk hfin HB.out)
          clear HRT HRA hok HLO HHI hx255 hY HRl HR hTK hfin
          by_cases h3 : Y < lo
          · have d3 : decide (Y < lo) = true := decide_eq_true h3
            clear h3 hlo2
            go_wp2_with fail
            (refine bodyPost_ret (by simp [results, Tryz.results117, go_sem]; rfl) rfl ?_)
            exact HFin.out _
          · have d3 : decide (Y < lo) = false := decide_eq_false h3
            have d4 : decide (Y > hi) = true := by rw [decide_eq_true_eq]; omega
            have d5 : decide (hi < Y) = true := by rw [decide_eq_true_eq]; omega
            clear h3 hlo2
            go_wp2_with fail
            (refine bodyPost_ret (by simp [results, Tryz.results117, go_sem]; rfl) rfl ?_)
            exact HFin.out _
      · have hqe : q = n := by omega
        have hfin : rd b t = (65533, q) := by
          have hd : t.drop (q - 1) = [] := List.drop_eq_nil_of_le (by have := HNn.out; omega)
          unfold rd
          rw [HS.out, if_neg (by decide), HRT.out, hd]
          show (if q < 3 then _ else _) = _
          rw [if_pos hlt]
          rfl
        have HFin := Lib.hid (ReadSaid.mk hfin HB.out)
        have dl : decide (q < n) = false := decide_eq_false hqn2
        clear HRT HLO HHI HRl HR hfin hqe
        go_wp2_with fail
        (refine bodyPost_ret (by simp [results, Tryz.results117, go_sem]; rfl) rfl ?_)
        exact HFin.out _
    · have hqe : q = 3 := by omega
      subst hqe
      have hfin : rd b t = (R, 3) := by
        unfold rd
        rw [HS.out, if_neg (by decide), HRT.out, run0, if_neg (by decide)]
        unfold cpOf
        rw [HR.out, HF.out]
      have HFin := Lib.hid (ReadSaid.mk hfin HB.out)
      clear HRT HLO HHI HRl HR hfin
      go_wp2_with fail
      (refine bodyPost_ret (by simp [results, Tryz.results117, go_sem]; rfl) rfl ?_)
      exact HFin.out _
set_option maxRecDepth 100000 in
theorem read4_walk (w : World) (v : Value) (b : Nat) (t : List Nat) (h : BytesAt w v (b :: t)) (hl : t.length ≤ 1000000) (hs : szOf b = 4) : Calls Tryz.prog 117 #[v] w (ReadSaid b t w) := by
  obtain ⟨ad, c, rfl, hnc, hb, c0, hct⟩ := h.some
  rw [add_noneU] at c0
  have HT := Lib.hid (tail_walk w b hb)
  have HC := Lib.hid hct
  obtain ⟨n, hn⟩ : ∃ n : Nat, n = t.length + 1 := ⟨_, rfl⟩
  have hn0 : 0 < n := by omega
  rw [← hn] at hnc ⊢
  have HNn := Lib.hid hn
  have HS := Lib.hid hs
  obtain ⟨X0, hX0⟩ : ∃ X : Int, X = (b : Nat) := ⟨_, rfl⟩
  have h128 : 128 ≤ b := by
    have : ¬ b ≤ 127 := fun h => by unfold szOf at hs; rw [if_pos h] at hs; omega
    omega
  rw [← hX0] at c0 HT
  have d1 : decide (X0 < 128) = false := by rw [decide_eq_false_iff_not]; omega
  have w1 : IntKind.i64.wrap X0 = X0 := by rw [IntKind.wrap_i64]; omega
  have a1 : bits BinOp.and IntKind.i64 X0 7 = ((first b 4 : Nat) : Int) := by
    rw [hX0, show ((7 : Int)) = (2 : Int) ^ 3 - 1 by decide, and_mask b 3 hb (by decide)]
    unfold first
    rw [if_neg (by decide)]
  have hf0 : first b 4 < 8 := by unfold first; rw [if_neg (by decide)]; exact Nat.mod_lt _ (by decide)
  obtain ⟨f0, hf⟩ : ∃ f, f = first b 4 := ⟨_, rfl⟩
  rw [← hf] at a1 hf0
  have HF := Lib.hid hf
  clear h hct hn hs hX0 h128 hb hf
  go_enter Tryz.func117, Tryz.ntmps117
  go_wp2_with fail
  go_step3
  go_wp2_with fail
  refine HT.out.mono ?_
  rintro e w1 ⟨⟨lo, hi, N, rfl, hlh⟩, rfl⟩
  obtain ⟨hN, hlo, hhi⟩ : N = 3 ∧ lo = (loOf b 1 : Nat) ∧ hi = (hiOf b 1 : Nat) := by
    have := HS.out
    rcases hlh with ⟨h, _⟩ | ⟨_, h1, h2, h3⟩
    · omega
    · exact ⟨by rw [h1, this]; rfl, h2, h3⟩
  subst hN
  have HLO := Lib.hid hlo
  have HHI := Lib.hid hhi
  clear HT hlh hlo hhi
  go_wp2_with fail
  go_quiet (fail)
  simp only [Exit.then]
  obtain ⟨wd, hwd⟩ : ∃ wd, wd = w.drewN nq := ⟨_, rfl⟩
  have HB := Lib.hid (show Below w.heap.size w wd from hwd ▸ below_drewN w nq)
  rw [← hwd]
  clear hwd c0 d1 w1 a1
  go_wp2_with fail
  go_step3
  go_wp2_with fail
  go_loopw [5, 6, 8, 9] (fun l h r i wr => ∃ (q R : Nat) (lo hi : Int), 1 ≤ q ∧ q ≤ 4 ∧ q ≤ n ∧ l = .int .u8 lo ∧ h = .int .u8 hi ∧ r = .int .i64 R ∧ i = .int .i64 q ∧ Hid (lo = (loOf b q : Nat)) ∧ Hid (hi = (hiOf b q : Nat)) ∧ Hid (R = (t.take (q - 1)).foldl Utf.step f0) ∧ Hid (runTo b 4 t 1 = runTo b 4 (t.drop (q - 1)) q) ∧ Hid (Below w.heap.size w wr)) (fun _ _ _ i _ => 4 + 1 - (intOf i).toNat)
  case atStart => exact ⟨1, f0, lo, hi, Nat.le_refl _, by omega, by omega, rfl, rfl, rfl, rfl, HLO, HHI, rfl, rfl, HB⟩
  case round =>
    clear HB HLO HHI
    obtain ⟨q, R, lo, hi, hq1, hqs, hqn, rfl, rfl, rfl, rfl, HLO, HHI, HR, HRT, HB⟩ := hrel
    have HRl := Lib.hid (show R < 8 * 64 ^ (q - 1) by
      have h1 := fold_lt (t.take (q - 1)) f0
      rw [List.length_take, ← HR.out] at h1
      have h2 : (f0 + 1) * 64 ^ min (q - 1) t.length ≤ 8 * 64 ^ (q - 1) := Nat.mul_le_mul (by omega) (Nat.pow_le_pow_right (by decide) (by omega))
      omega)
    by_cases hlt : q < 4
    · have hq2 : q ≤ 3 := by omega
      have dq : decide ((q : Int) ≤ 3) = true := by rw [decide_eq_true_eq]; omega
      by_cases hqn2 : q < n
      · have hjt : q - 1 < t.length := by have := HNn.out; omega
        obtain ⟨hx255, hcell⟩ := HC.out (q - 1) hjt
        have HRA := Lib.hid (read_at hjt b 4)
        rw [show q - 1 + 1 = q by omega] at hcell HRA
        obtain ⟨x, hx⟩ : ∃ x, x = t[q - 1] := ⟨_, rfl⟩
        rw [← hx] at hcell HRA hx255
        have hTK := Lib.hid (show (t.take (q + 1 - 1)).foldl Utf.step f0 = Utf.step R x by
          rw [show q + 1 - 1 = (q - 1) + 1 by omega, List.take_succ_eq_append_getElem hjt, List.foldl_append, ← HR.out, ← hx]
          rfl)
        obtain ⟨Y, hY⟩ : ∃ Y : Int, Y = (x : Nat) := ⟨_, rfl⟩
        rw [← hY] at hcell
        have cx : wr.cell? (ad.add q) = some (.int .u8 Y) := cell_later HB.out hcell
        clear hcell hx
        cases hok : okAt b q x with
        | true =>
          have hlo2 : lo ≤ Y ∧ Y ≤ hi := by
            have h1 := HLO.out
            have h2 := HHI.out
            unfold okAt at hok
            simp only [Bool.and_eq_true, decide_eq_true_eq] at hok
            omega
          have d3 : decide (Y < lo) = false := by rw [decide_eq_false_iff_not]; omega
          have d4 : decide (Y > hi) = false := by rw [decide_eq_false_iff_not]; omega
          have d5 : decide (hi < Y) = false := by rw [decide_eq_false_iff_not]; omega
          have hR64 : R < 2097152 := by
            have h1 := HRl.out
            have h2 : 8 * 64 ^ (q - 1) ≤ 8 * 64 ^ (4 - 2) := Nat.mul_le_mul_left _ (Nat.pow_le_pow_right (by decide) (by omega))
            omega
          have b1 : bits BinOp.and IntKind.u8 Y 63 = ((x % 64 : Nat) : Int) := by rw [hY]; exact and63 x hx255
          have b2 : IntKind.i64.wrap ((x % 64 : Nat) : Int) = ((x % 64 : Nat) : Int) := by rw [IntKind.wrap_i64]; omega
          have b2' : IntKind.i64.wrap ((x : Int) % 64) = ((x % 64 : Nat) : Int) := by rw [IntKind.wrap_i64]; omega
          have b3 : IntKind.i64.wrap ((R : Int) * 64) = (R : Int) * 64 := by rw [IntKind.wrap_i64]; omega
          have b4 : bits BinOp.or IntKind.i64 ((R : Int) * 64) ((x % 64 : Nat) : Int) = ((Utf.step R x : Nat) : Int) := or64 R x hR64
          have b4' : bits BinOp.or IntKind.i64 ((R : Int) * 64) ((x : Int) % 64) = ((Utf.step R x : Nat) : Int) := by rw [show ((x : Int) % 64) = ((x % 64 : Nat) : Int) by omega]; exact or64 R x hR64
          have HRn := Lib.hid (show runTo b 4 t 1 = runTo b 4 (t.drop (q + 1 - 1)) (q + 1) by
            rw [HRT.out, show q + 1 - 1 = q by omega]
            have := HRA.out
            rw [if_pos ⟨hlt, hok⟩] at this
            exact this)
          have HL1 := Lib.hid (lo1 b (q + 1) (by omega))
          clear HRT HRA hok HLO HHI hlo2 hx255 hY HRl HR
          go_wp2_with fail
          go_roundw
          case rel => exact ⟨q + 1, Utf.step R x, 128, 191, by omega, by omega, by omega, rfl, rfl, rfl, by go_num, by show _ = _; rw [HL1.out.1]; rfl, by show _ = _; rw [HL1.out.2]; rfl, hTK.out.symm, HRn, HB⟩
          case measure => simp [intOf]; omega
        | false =>
          have hfin : rd b t = (65533, q) := by
            unfold rd
            rw [HS.out, if_neg (by decide), HRT.out]
            have := HRA.out
            rw [if_neg (by rw [hok]; simp)] at this
            rw [this, if_pos hlt]
          have hlo2 : Y < lo ∨ hi < Y := by
            have h1 := HLO.out
            have h2 := HHI.out
            unfold okAt at hok
            simp only [Bool.and_eq_false_iff, decide_eq_false_iff_not] at hok
            omega
          have HFin := Lib.hid (ReadSaid.mk hfin HB.out)
          clear HRT HRA hok HLO HHI hx255 hY HRl HR hTK hfin
          by_cases h3 : Y < lo
          · have d3 : decide (Y < lo) = true := decide_eq_true h3
            clear h3 hlo2
            go_wp2_with fail
            (refine bodyPost_ret (by simp [results, Tryz.results117, go_sem]; rfl) rfl ?_)
            exact HFin.out _
          · have d3 : decide (Y < lo) = false := decide_eq_false h3
            have d4 : decide (Y > hi) = true := by rw [decide_eq_true_eq]; omega
            have d5 : decide (hi < Y) = true := by rw [decide_eq_true_eq]; omega
            clear h3 hlo2
            go_wp2_with fail
            (refine bodyPost_ret (by simp [results, Tryz.results117, go_sem]; rfl) rfl ?_)
            exact HFin.out _
      · have hqe : q = n := by omega
        have hfin : rd b t = (65533, q) := by
          have hd : t.drop (q - 1) = [] := List.drop_eq_nil_of_le (by have := HNn.out; omega)
          unfold rd
          rw [HS.out, if_neg (by decide), HRT.out, hd]
          show (if q < 4 then _ else _) = _
          rw [if_pos hlt]
          rfl
        have HFin := Lib.hid (ReadSaid.mk hfin HB.out)
        have dl : decide (q < n) = false := decide_eq_false hqn2
        clear HRT HLO HHI HRl HR hfin hqe
        go_wp2_with fail
        (refine bodyPost_ret (by simp [results, Tryz.results117, go_sem]; rfl) rfl ?_)
        exact HFin.out _
    · have hqe : q = 4 := by omega
      subst hqe
      have hfin : rd b t = (R, 4) := by
        unfold rd
        rw [HS.out, if_neg (by decide), HRT.out, run0, if_neg (by decide)]
        unfold cpOf
        rw [HR.out, HF.out]
      have HFin := Lib.hid (ReadSaid.mk hfin HB.out)
      clear HRT HLO HHI HRl HR hfin
      go_wp2_with fail
      (refine bodyPost_ret (by simp [results, Tryz.results117, go_sem]; rfl) rfl ?_)
      exact HFin.out _
set_option maxRecDepth 100000 in
theorem read_walk (w : World) (v : Value) (b : Nat) (t : List Nat) (h : BytesAt w v (b :: t)) (hl : t.length ≤ 1000000) : Calls Tryz.prog 117 #[v] w (ReadSaid b t w) := by
  have h4 := szOf_le b
  by_cases h2 : 2 ≤ szOf b
  · rcases (by omega : szOf b = 2 ∨ szOf b = 3 ∨ szOf b = 4) with e | e | e
    · exact read2_walk w v b t h hl e
    · exact read3_walk w v b t h hl e
    · exact read4_walk w v b t h hl e
  · obtain ⟨ad, c, rfl, hnc, hb, c0, hct⟩ := h.some
    rw [add_noneU] at c0
    have HT := Lib.hid (tail_walk w b hb)
    obtain ⟨n, hn⟩ : ∃ n : Nat, n = t.length + 1 := ⟨_, rfl⟩
    have hn0 : 0 < n := by omega
    rw [← hn] at hnc ⊢
    have HS := Lib.hid h2
    obtain ⟨X0, hX0⟩ : ∃ X : Int, X = (b : Nat) := ⟨_, rfl⟩
    have HX := Lib.hid hX0
    rw [← hX0] at c0 HT
    have w1 : IntKind.i64.wrap X0 = X0 := by rw [IntKind.wrap_i64]; omega
    have hsz : szOf b = if b ≤ 127 then 1 else 0 := by
      by_cases h127 : b ≤ 127
      · unfold szOf; rw [if_pos h127, if_pos h127]
      · unfold szOf
        unfold szOf at h2
        rw [if_neg h127] at h2 ⊢
        rw [if_neg h127]
        split
        · rfl
        · rename_i h194
          rw [if_neg h194] at h2
          split
          · rename_i h; rw [if_pos h] at h2; omega
          · rename_i h
            rw [if_neg h] at h2
            split
            · rename_i h'; rw [if_pos h'] at h2; omega
            · rename_i h'
              rw [if_neg h'] at h2
              split
              · rename_i h''; rw [if_pos h''] at h2; omega
              · rfl
    clear h hct hn h4 h2 hX0
    by_cases h127 : b ≤ 127
    · rw [if_pos h127] at hsz
      have hfin : rd b t = (b, 1) := by
        unfold rd
        rw [hsz, if_neg (by decide), run0, if_neg (by decide)]
        rfl
      have HFin := Lib.hid (ReadSaid.mk (w := w) hfin (Below.refl _ _) true)
      rw [← HX.out] at HFin
      have d1 : decide (X0 < 128) = true := by rw [decide_eq_true_eq]; have := HX.out; omega
      clear hfin hsz hb h127 HX
      go_enter Tryz.func117, Tryz.ntmps117
      go_wp2_with fail
      go_step3
      go_wp2_with fail
      (refine bodyPost_ret (by simp [results, Tryz.results117, go_sem]; rfl) rfl ?_)
      exact HFin.out
    · rw [if_neg h127] at hsz
      have hfin : rd b t = (65533, 1) := by
        unfold rd
        rw [hsz, if_pos rfl]
      have HFin := Lib.hid (ReadSaid.mk (w := w) hfin (Below.refl _ _) false)
      have d1 : decide (X0 < 128) = false := by rw [decide_eq_false_iff_not]; have := HX.out; omega
      clear hfin hsz hb h127 HX
      go_enter Tryz.func117, Tryz.ntmps117
      go_wp2_with fail
      go_step3
      go_wp2_with fail
      refine HT.out.mono ?_
      rintro e w1 ⟨⟨lo, hi, N, rfl, hlh⟩, rfl⟩
      obtain rfl : N = 0 := by
        have := HS.out
        rcases hlh with ⟨_, h⟩ | ⟨h, _⟩
        · exact h
        · omega
      clear HT hlh
      go_wp2_with fail
      (refine bodyPost_ret (by simp [results, Tryz.results117, go_sem]; rfl) rfl ?_)
      exact HFin.out
end Go.Proofs.YthoegenipbohmaaGreatDoor
