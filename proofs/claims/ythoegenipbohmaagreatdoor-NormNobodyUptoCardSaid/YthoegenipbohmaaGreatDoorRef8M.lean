/- RefF, RefQ, RefD, RefN, RefO, RefOW, NormR8, ItV: in one text. -/
import Derived.Test.YthoegenipbohmaaGreatDoorRef6C
import Derived.Test.YthoegenipbohmaaGreatDoorFoldB
import Derived.Test.YthoegenipbohmaaGreatDoorAcc2M
import Derived.Test.YthoegenipbohmaaGreatDoorPur
import Derived.Test.YthoegenipbohmaaGreatDoorDecM
import Derived.Test.YthoegenipbohmaaGreatDoorAppM
import Derived.Test.YthoegenipbohmaaGreatDoorNormM
import Derived.Test.YthoegenipbohmaaGreatDoorOpen
import Derived.Deep.Strs
import Derived.Lib.SliceRun
namespace Go.Proofs.YthoegenipbohmaaGreatDoor
open Go.RowKit
set_option linter.unusedVariables false
set_option linter.unusedSimpArgs false

theorem inRec2_iff (r : Int) (x : Rec) : inRec2 r x = true ↔ (x.lo : Int) ≤ r ∧ r ≤ x.hi := by
  unfold inRec2
  rw [Bool.and_eq_true, decide_eq_true_eq, decide_eq_true_eq]
theorem foldl_find (full : Bool) (r : Int) : ∀ (rs : List Rec) (F : Int → Option (List Nat)), (rs.foldl (fun F x => foldRec x full F) F) r = match F r with
    | some l => some l
    | none => (rs.find? (inFold r full)).map fun x => bump (Sp.pts (fld1 x)) (r - x.lo).toNat
  | [], F => by cases h : F r <;> simp [h]
  | x :: rs, F => by
    rw [List.foldl_cons, foldl_find full r rs, List.find?_cons]
    unfold foldRec inFold
    cases hs : skips x full with
    | true => simp
    | false =>
      simp only [Bool.false_eq_true, if_false, Bool.not_false, Bool.and_true]
      unfold foldTo
      cases hF : F r with
      | some l => rfl
      | none =>
        by_cases h : (x.lo : Int) ≤ r ∧ r ≤ x.hi
        · simp only
          rw [if_pos h, (inRec2_iff r x).2 h]
          rfl
        · have h2 : inRec2 r x = false := by
            cases h3 : inRec2 r x with
            | false => rfl
            | true => exact absurd ((inRec2_iff r x).1 h3) h
          simp only
          rw [if_neg h, h2]
theorem foldR_eq (Φ : Files) (full : Bool) (r : Int) : foldR Φ full r = foldz Φ full r := by
  unfold foldR foldz foldsOf
  rw [foldl_find full r Φ.fol]
  cases Φ.fol.find? (inFold r full) <;> rfl
/-! ### foldings -/
section
variable {w : World} {B b : Nat} {Φ : Files}
end
end Go.Proofs.YthoegenipbohmaaGreatDoor

namespace Go.Proofs.YthoegenipbohmaaGreatDoor
open Go.RowKit
set_option linter.unusedVariables false
set_option linter.unusedSimpArgs false

def apartB : Nat → List Rec → Bool
  | _, [] => true
  | n, x :: rs => Nat.ble n x.lo && apartB (x.hi + 1) rs
theorem apart_ge : ∀ (rs : List Rec) (n : Nat), apartB n rs = true → (∀ x ∈ rs, x.lo ≤ x.hi) → ∀ x ∈ rs, n ≤ x.lo
  | [], _, _, _, x, hx => by cases hx
  | y :: rs, n, h, hl, x, hx => by
    unfold apartB at h
    rw [Bool.and_eq_true, Nat.ble_eq] at h
    rcases List.mem_cons.1 hx with rfl | hx
    · exact h.1
    · have h1 := apart_ge rs (y.hi + 1) h.2 (fun z hz => hl z (List.mem_cons_of_mem _ hz)) x hx
      have h2 := hl y List.mem_cons_self
      omega
theorem parts_find (r : Int) : ∀ (rs : List Rec) (n : Nat) (F : Int → Option (List Nat)), apartB n rs = true → (∀ x ∈ rs, x.lo ≤ x.hi) → (rs.foldl (fun F x => partsRec x F) F) r = match rs.find? (inRec2 r) with
    | some x => some (Sp.pts (fld0 x))
    | none => F r
  | [], n, F, _, _ => rfl
  | y :: rs, n, F, h, hl => by
    have h' := h
    unfold apartB at h'
    rw [Bool.and_eq_true, Nat.ble_eq] at h'
    have hl2 := fun z hz => hl z (List.mem_cons_of_mem _ hz)
    rw [List.foldl_cons, parts_find r rs (y.hi + 1) _ h'.2 hl2, List.find?_cons]
    have hg := apart_ge rs (y.hi + 1) h'.2 hl2
    by_cases hy : (y.lo : Int) ≤ r ∧ r ≤ y.hi
    · rw [(inRec2_iff r y).2 hy]
      have hn : rs.find? (inRec2 r) = none := by
        rw [List.find?_eq_none]
        intro x hx hin
        have h1 := (inRec2_iff r x).1 hin
        have h2 := hg x hx
        omega
      rw [hn]
      unfold partsRec
      simp only
      rw [if_pos hy]
    · have h2 : inRec2 r y = false := by
        cases h3 : inRec2 r y with
        | false => rfl
        | true => exact absurd ((inRec2_iff r y).1 h3) hy
      rw [h2]
      cases hf : rs.find? (inRec2 r) with
      | some x => rfl
      | none =>
        unfold partsRec
        simp only
        rw [if_neg hy]
theorem partsR_eq {Φ : Files} (h : apartB 0 Φ.dec = true) (hl : ∀ x ∈ Φ.dec, x.lo ≤ x.hi) (r : Int) : partsR Φ r = partz Φ r := by
  unfold partsR partz partsOf
  rw [parts_find r Φ.dec 0 _ h hl]
  cases Φ.dec.find? (inRec2 r) <;> rfl
theorem dec_apart : apartB 0 (recsOf Tryz.f55) = true := by kernel_rfl
set_option maxRecDepth 100000 in
theorem files_apart : apartB 0 files.dec = true := dec_apart
theorem dec_le {Φ : Files} (hok : FilesOk Φ) : ∀ x ∈ Φ.dec, x.lo ≤ x.hi := fun x hx => ((hok.dec x hx).ok).1
theorem files_parts (r : Int) : partsR files r = partz files r := partsR_eq files_apart (dec_le files_ok) r
/-! ### taken apart by recursion -/
theorem dfull_len (P : Int → Option (List Nat)) : ∀ (k : Nat) (r : Int), (dfull P k r).length ≤ 3 * dcost P k r
  | 0, r => by
    unfold dfull dcost
    split
    · exact (sylOf_len r).1
    · simp
  | k + 1, r => by
    rw [dfull_succ, dcost_succ]
    split
    · exact (sylOf_len r).1
    · split
      · rename_i n l _
        have h : ∀ m : List Nat, (m.flatMap fun x => dfull P k (x : Nat)).length ≤ 3 * (m.map fun x => dcost P k (x : Nat)).sum := by
          intro m
          induction m with
          | nil => simp
          | cons x m ih =>
            have := dfull_len P k (x : Nat)
            simp only [List.flatMap_cons, List.length_append, List.map_cons, List.sum_cons]
            omega
        exact Nat.le_trans (h (n :: l)) (Nat.mul_le_mul_left 3 (Nat.le_add_left _ _))
      · simp
/-- One level: what is neither a syllable nor without parts is its parts', one behind the other. -/
def dstep (ps : List Int) (D : Int → List Int) (r : Int) : List Int := if isSyl r then sylOf r else if ps = [] then [r] else ps.flatMap D
theorem dfull_step {Φ : Files} (k : Nat) (r : Int) : dfull (partsOf Φ.dec) (k + 1) r = dstep (partz Φ r) (dfull (partsOf Φ.dec) k) r := by
  rw [dfull_succ]
  unfold dstep partz
  by_cases hs : isSyl r = true
  · rw [if_pos hs, if_pos hs]
  · rw [if_neg hs, if_neg hs]
    cases hP : partsOf Φ.dec r with
    | none => rfl
    | some l =>
      cases l with
      | nil => rfl
      | cons n l =>
        rw [if_neg (by simp)]
        simp only [Option.getD_some, List.map_cons, List.flatMap_cons, List.flatMap_map]
theorem dfull_base {Φ : Files} (r : Int) (h : partsOf Φ.dec r = none) (D : Int → List Int) : dfull (partsOf Φ.dec) 0 r = dstep (partz Φ r) D r := by
  unfold dstep partz dfull
  rw [h]
  rfl
theorem parts_neg {Φ : Files} (r : Int) (h : r < 0) : partsOf Φ.dec r = none := by
  cases hP : partsOf Φ.dec r with
  | none => rfl
  | some l =>
    obtain ⟨x, hx, h1, h2, _⟩ := parts_rec hP
    omega
end Go.Proofs.YthoegenipbohmaaGreatDoor

namespace Go.Proofs.YthoegenipbohmaaGreatDoor
open Go.RowKit
set_option linter.unusedVariables false
set_option linter.unusedSimpArgs false

set_option maxRecDepth 100000 in
set_option maxHeartbeats 3200000 in
theorem full_step {w : World} {B b : Nat} {Φ : Files} (hr : RefAt w B b Φ) (hok : FilesOk Φ) (r : Int) (ps : List Int) (hps : partsR Φ r = ps) (D : Int → List Int)
    (hD : ∀ x ∈ ps, ∀ W, Below w.heap.size w W → Calls Tryz.prog 59 #[.pointer (some ⟨b, 0, none⟩), .int .i64 x] W (CloneSaid (D x) W)) (hlen : (ps.flatMap D).length ≤ 1000000000) :
    Calls Tryz.prog 59 #[.pointer (some ⟨b, 0, none⟩), .int .i64 r] w (CloneSaid (dstep ps D r) w) := by
  have HP := Lib.hid (parts_ref hr hok r)
  rw [hps] at HP
  have HD := Lib.hid hD
  have HL := Lib.hid hlen
  clear hr hps hD hlen
  go_enter Tryz.func59, Tryz.ntmps59
  by_cases hs : 44032 ≤ r ∧ r ≤ 55203
  · obtain ⟨n, rfl⟩ : ∃ n : Nat, r = 44032 + (n : Int) := ⟨(r - 44032).toNat, by omega⟩
    have hn : n < 11172 := by omega
    have Hf := Lib.hid (show dstep ps D (44032 + (n : Int)) = sylOf (44032 + (n : Int)) by
      unfold dstep isSyl
      rw [if_pos (by rw [Bool.and_eq_true, decide_eq_true_eq, decide_eq_true_eq]; omega)])
    have d1 : decide (44032 + (n : Int) ≥ 44032) = true := by simp; omega
    have d2 : decide (44032 + (n : Int) ≤ 55203) = true := by simp; omega
    have b0 : IntKind.i64.wrap (44032 + (n : Int) - 44032) = n := by rw [IntKind.wrap_i64]; omega
    have v0 : wrap64 (44032 + (n : Int) - 44032) = n := by unfold wrap64; omega
    have t1 : ((n : Int)).tdiv 588 = (n : Int) / 588 := Int.tdiv_eq_ediv_of_nonneg (by omega)
    have t2 : ((n : Int)).tmod 588 = (n : Int) % 588 := Int.tmod_eq_emod_of_nonneg (by omega)
    have t3 : ((n : Int) % 588).tdiv 28 = (n : Int) % 588 / 28 := Int.tdiv_eq_ediv_of_nonneg (by omega)
    have t4 : ((n : Int)).tmod 28 = (n : Int) % 28 := Int.tmod_eq_emod_of_nonneg (by omega)
    have e1 : (44032 + (n : Int) - 44032) = n := by omega
    have e2 : (n : Int) / 28 % 21 = (n : Int) % 588 / 28 := by
      have := Nat.mod_mul_right_div_self n 28 21
      have h : ((n % (28 * 21) / 28 : Nat) : Int) = ((n / 28 % 21 : Nat) : Int) := by rw [this]
      exact h.symm
    have Hsyl := Lib.hid (show sylOf (44032 + (n : Int)) = [4352 + (n : Int) / 588, 4449 + (n : Int) % 588 / 28] ++ (if (n : Int) % 28 = 0 then [] else [4519 + (n : Int) % 28]) by
      unfold sylOf
      rw [e1, e2])
    have hqa : 0 ≤ (n : Int) / 588 ∧ (n : Int) / 588 < 20 := by omega
    have hqm : 0 ≤ (n : Int) % 588 ∧ (n : Int) % 588 < 588 := by omega
    have hqc : 0 ≤ (n : Int) % 28 ∧ (n : Int) % 28 < 28 := by omega
    clear hs e1 e2
    generalize (n : Int) / 588 = qa at *
    generalize (n : Int) % 588 = qm at *
    have hqb : 0 ≤ qm / 28 ∧ qm / 28 < 22 := by omega
    generalize qm / 28 = qb at *
    generalize hqce : (n : Int) % 28 = qc at *
    have b1 : IntKind.i64.wrap (4352 + qa) = 4352 + qa := by rw [IntKind.wrap_i64]; omega
    have b2 : IntKind.i64.wrap (4449 + qb) = 4449 + qb := by rw [IntKind.wrap_i64]; omega
    have b3 : IntKind.i64.wrap (4519 + qc) = 4519 + qc := by rw [IntKind.wrap_i64]; omega
    have b4 : IntKind.i64.wrap qa = qa := by rw [IntKind.wrap_i64]; omega
    have b5 : IntKind.i64.wrap qb = qb := by rw [IntKind.wrap_i64]; omega
    have v1 : wrap64 (4352 + qa) = 4352 + qa := by unfold wrap64; omega
    have v2 : wrap64 (4449 + qb) = 4449 + qb := by unfold wrap64; omega
    have v3 : wrap64 (4519 + qc) = 4519 + qc := by unfold wrap64; omega
    have v4 : wrap64 qa = qa := by unfold wrap64; omega
    have v5 : wrap64 qb = qb := by unfold wrap64; omega
    have hb1 := alloc_below w (Obj.cells #[Value.int IntKind.i64 (4352 + qa), Value.int IntKind.i64 (4449 + qb)] 3)
    have hown := own_fresh2 w 3 (Value.int IntKind.i64 (4352 + qa)) (Value.int IntKind.i64 (4449 + qb))
    have HB := Lib.hid hb1
    have HO := Lib.hid hown
    clear hb1 hown hqa hqm hqb hqce
    by_cases hz : qc = 0
    · have z1 : (qc != 0) = false := by rw [hz]; rfl
      rw [if_pos hz, List.append_nil] at Hsyl
      clear hz
      go_wp2_with fail
      go_ret
      refine ⟨_, rfl, ?_, HB.out⟩
      rw [Hf.out, Hsyl.out]
      exact HO.out
    · have z1 : (qc != 0) = true := by rw [bne_iff_ne]; exact hz
      rw [if_neg hz] at Hsyl
      clear hz
      go_upto_region 5 with fail
      generalize w.alloc _ = W1 at *
      go_wp2_with (at_builtin; refine wp_append_lit slIntR rfl (.tmp 30) (.tmp 34) rfl w.heap.size _ 2 _ rfl (by exact HO.out) #[.int .i64 (4519 + qc)] rfl rfl (by simp [Value.oneCell']) (by omega) (by exact HB.out.size) ?_; intro v5 w5 hown5 hg5; have HB5 := Lib.hid (HB.out.grown hg5 HB.out.size (fun k hk => (own_lt HO.out k hk).1)); have HR5 := Lib.hid hown5; clear hg5 hown5)
      go_ret
      refine ⟨_, rfl, ?_, HB5.out⟩
      rw [Hf.out, Hsyl.out]
      exact HR5.out
  · have hns : isSyl r = false := by
      cases hi : isSyl r with
      | false => rfl
      | true =>
        unfold isSyl at hi
        rw [Bool.and_eq_true, decide_eq_true_eq, decide_eq_true_eq] at hi
        exact absurd hi hs
    have Hd := Lib.hid (show dstep ps D r = if ps = [] then [r] else ps.flatMap D by unfold dstep; rw [hns, if_neg (by decide)])
    clear hns
    go_upto_region 7 with fail
    all_goals first | (exfalso; (try simp only [decide_eq_true_eq, decide_eq_false_iff_not] at *); omega) | skip
    all_goals
      go_wp2_with fail
      refine HP.out.mono ?_
      rintro e w1 ⟨v1, rfl, hv1, hb1⟩
      have hpl := own_len hv1
      unfold maxLen at hpl
      obtain ⟨A1, c1, rfl⟩ := own_slice hv1
      have HV := Lib.hid hv1
      have HB := Lib.hid hb1
      clear hv1 hb1
      by_cases hnil : ps = []
      · have Hf := Lib.hid (show dstep ps D r = [r] by rw [Hd.out, if_pos hnil])
        have l0 : ((ps.length : Int) == 0) = true := by rw [hnil]; rfl
        have hba := alloc_below w1 (Obj.cells #[Value.int IntKind.i64 r] 3)
        have HO := Lib.hid (own_base (own_fresh1 w1 3 (Value.int .i64 r)) HB.out.size)
        have HBa := Lib.hid (HB.out.trans (hba.mono HB.out.size))
        clear hba Hd
        go_wp2_with fail
        go_ret
        refine ⟨_, rfl, ?_, HBa.out⟩
        rw [Hf.out]
        exact HO.out
      · have Hf := Lib.hid (show dstep ps D r = ps.flatMap D by rw [Hd.out, if_neg hnil])
        have hpos : 0 < ps.length := List.length_pos_iff.2 hnil
        have l0 : ((ps.length : Int) == 0) = false := by rw [beq_eq_false_iff_ne]; omega
        obtain ⟨g1, k1, e, hg1, hg2, _, _⟩ := own_form HV.out hpos
        injection e with e1 e2 e3
        subst e1 e3
        clear Hd hnil
        go_wp2_with fail
        go_loopw [8, 47] (fun v i wr => ∃ k : Nat, k ≤ ps.length ∧ i = .int .i64 k ∧ Hid (wr.ownsRow w1.heap.size 3 1 v ((ps.take k).flatMap D).length (intz ((ps.take k).flatMap D))) ∧ Hid (Below w1.heap.size w1 wr)) (fun _ i _ => ps.length - (intOf i).toNat)
        case atStart => exact ⟨0, by omega, rfl, World.ownsRow_nil _ _ _ _, Below.refl _ _⟩
        case round =>
          obtain ⟨k, hk, rfl, HR, HBr⟩ := hrel
          by_cases hlt : k < ps.length
          · obtain ⟨x, hx⟩ : ∃ x, x = ps[k] := ⟨_, rfl⟩
            have hxm : x ∈ ps := by rw [hx]; exact List.getElem_mem _
            have cx : wr.cell? ⟨g1, k, none⟩ = some (.int .i64 x) := (HBr.out.cell (p := ⟨_, _, _⟩) hg2).trans (own_cell HV.out k _ (by unfold intz; rw [List.getElem?_map, List.getElem?_eq_getElem hlt, hx]; rfl))
            have HBw := Lib.hid (HB.out.trans (HBr.out.mono HB.out.size))
            have HC := Lib.hid (HD.out x hxm wr HBw.out)
            have Htk := Lib.hid (show (ps.take (k + 1)).flatMap D = (ps.take k).flatMap D ++ D x by rw [List.take_succ_eq_append_getElem hlt, List.flatMap_append, ← hx]; simp)
            have Hle := Lib.hid (show ((ps.take k).flatMap D).length + (D x).length ≤ 1000000000 by
              have h1 : ((ps.take (k + 1)).flatMap D).length ≤ (ps.flatMap D).length := by
                conv => rhs; rw [← List.take_append_drop (k + 1) ps, List.flatMap_append, List.length_append]
                omega
              rw [Htk.out, List.length_append] at h1
              have := HL.out
              omega)
            clear hx hxm
            generalize hdx : D x = dx at *
            generalize hdo : (ps.take k).flatMap D = out at *
            go_wp2_with fail
            refine HC.out.mono ?_
            rintro e w4 ⟨v4, rfl, hv4, hb4⟩
            obtain ⟨A4, c4, rfl⟩ := own_slice hv4
            have hbt : (out.length + dx.length) * 8 ≤ 140737488355328 := by have := Hle.out; omega
            have HR4 := Lib.hid (own_below HR.out hb4)
            have HB4 := Lib.hid (HBr.out.trans (hb4.mono HBr.out.size))
            have HN := Lib.hid (own_news hv4)
            have H4n := Lib.hid (show A4 = none → dx.length = 0 ∧ c4 = 0 by
              intro e
              rcases hv4.2 with ⟨h, h'⟩ | ⟨g', cap', cur, h, _⟩
              · injection h with _ _ h3
                exact ⟨h', h3⟩
              · rw [e] at h; injection h with h _ _; cases h)
            clear hv4 hb4 HC cx HR
            go_wp2_with (at_builtin; refine wp_append_more w4 slIntR rfl (.tmp 51) (.tmp 54) rfl w1.heap.size _ out.length _ rfl (by exact HR4.out) A4 dx.length c4 (intz dx) rfl H4n.out (by simp [intz]) HN.out (by intro u hu; unfold intz at hu; obtain ⟨_, _, rfl⟩ := List.mem_map.1 hu; rfl) (by exact hbt) HB4.out.size ?_; intro v5 w5 hown5 hg5; have HB5 := Lib.hid (HB4.out.grown hg5 HB4.out.size (fun k hk => (own_lt HR4.out k hk).1)); have HR5 := Lib.hid hown5; clear hg5 hown5)
            go_roundw
            case rel => exact ⟨k + 1, by omega, by go_num, by
              show World.ownsRow _ _ _ _ _ _ _
              rw [Htk.out, List.length_append]
              unfold intz
              rw [List.map_append]
              exact HR5.out, HB5⟩
            case measure => simp [intOf]; omega
          · have hkl : k = ps.length := by omega
            subst hkl
            have HBw := Lib.hid (HB.out.trans (HBr.out.mono HB.out.size))
            go_wp2_with fail
            go_ret
            refine ⟨_, rfl, ?_, HBw.out⟩
            rw [Hf.out]
            have := own_base HR.out HB.out.size
            rw [List.take_length] at this
            exact this
theorem dcap_four : ∀ k, k ≤ 4 → dcap k ≤ 200000
  | 0, _ => by decide
  | 1, _ => by decide
  | 2, _ => by decide
  | 3, _ => by decide
  | 4, _ => by decide
  | k + 5, h => by omega
theorem full07_levels {Φ : Files} (hok : FilesOk Φ) (hps : ∀ r, partsR Φ r = partz Φ r) (hsh : shortB Φ.dec = true) : ∀ (k : Nat), k ≤ 4 → ∀ (r : Int), (∀ n : Nat, r = n → (lev Φ.dec k).testBit n = false) → ∀ (w : World) (B b : Nat), RefAt w B b Φ →
    Calls Tryz.prog 59 #[.pointer (some ⟨b, 0, none⟩), .int .i64 r] w (CloneSaid (dfull (partsOf Φ.dec) k r) w)
  | 0, _, r, hlev, w, B, b, hr => by
    have hn : partsOf Φ.dec r = none := by
      by_cases h : 0 ≤ r
      · obtain ⟨n, rfl⟩ := Int.eq_ofNat_of_zero_le h
        exact parts_top (hlev n rfl)
      · exact parts_neg r (by omega)
    rw [dfull_base r hn (fun _ => [])]
    have hp : partz Φ r = [] := by unfold partz; rw [hn]; rfl
    refine full_step hr hok r (partz Φ r) (hps r) _ ?_ ?_
    · rw [hp]
      intro x hx
      cases hx
    · rw [hp]
      simp
  | k + 1, hk, r, hlev, w, B, b, hr => by
    rw [dfull_step]
    refine full_step hr hok r (partz Φ r) (hps r) _ ?_ ?_
    · intro x hx W hb
      have hx' := hx
      unfold partz at hx'
      obtain ⟨m, hm, rfl⟩ := List.mem_map.1 hx'
      refine full07_levels hok hps hsh k (by omega) m ?_ W B b (hr.below hb)
      rintro n hn
      obtain rfl : m = n := by omega
      cases hP : partsOf Φ.dec r with
      | none => rw [hP] at hm; cases hm
      | some l =>
        rw [hP] at hm
        by_cases h : 0 ≤ r
        · obtain ⟨q, rfl⟩ := Int.eq_ofNat_of_zero_le h
          exact parts_next (hlev q rfl) hP m hm
        · rw [parts_neg r (by omega)] at hP
          cases hP
    · have h1 : ∀ l : List Int, (l.flatMap (dfull (partsOf Φ.dec) k)).length ≤ l.length * 600000 := by
        intro l
        induction l with
        | nil => simp
        | cons x l ih =>
          have h2 := dfull_len (partsOf Φ.dec) k x
          have h3 := dcost_le hsh k x
          have h4 := dcap_four k (by omega)
          rw [List.flatMap_cons, List.length_append, List.length_cons]
          omega
      have h2 := h1 (partz Φ r)
      have h3 : (partz Φ r).length ≤ 20 := by
        unfold partz
        rw [List.length_map]
        cases hP : partsOf Φ.dec r with
        | none => simp
        | some l =>
          obtain ⟨x, hx, _, _, rfl⟩ := parts_rec hP
          have := List.all_eq_true.1 hsh x hx
          simpa using this
      omega
theorem full07_walk {Φ : Files} (hok : FilesOk Φ) (hps : ∀ r, partsR Φ r = partz Φ r) (hsh : shortB Φ.dec = true) (h0 : lev Φ.dec 4 = 0) (r : Int) {w : World} {B b : Nat} (hr : RefAt w B b Φ) :
    Calls Tryz.prog 59 #[.pointer (some ⟨b, 0, none⟩), .int .i64 r] w (CloneSaid (dall (partsOf Φ.dec) r) w) := by
  have e : dall (partsOf Φ.dec) r = dfull (partsOf Φ.dec) 4 r := by
    unfold dall
    by_cases h : 0 ≤ r
    · obtain ⟨n, rfl⟩ := Int.eq_ofNat_of_zero_le h
      exact (dfull_more 4 n (by rw [h0]; exact Nat.zero_testBit n)).1
    · rw [dfull_succ, dfull_succ, parts_neg r (by omega)]
  rw [e]
  exact full07_levels hok hps hsh 4 (Nat.le_refl _) r (fun n _ => by rw [h0]; exact Nat.zero_testBit n) w B b hr
end Go.Proofs.YthoegenipbohmaaGreatDoor

namespace Go.Proofs.YthoegenipbohmaaGreatDoor
open Go.RowKit
set_option linter.unusedVariables false
set_option linter.unusedSimpArgs false
/-- A region that draws its order, told by what stands when a set of its operations is done. -/
theorem wp_region_set {P : Program} {ops : Array Oper} {Q : Exit → Act → World → Prop} {id : Nat} {a : Act} {w : World} (hm : P.follows .mixedOrders = true) (ds : List (Option Tmp)) (hok : dagOk ops ds = true)
    (J : (Nat → Bool) → (Nat → Value) → World → Prop) (h0 : ∀ vs, J (fun _ => false) vs { w with drawn := w.drawn + 1 })
    (hstep : ∀ i o, ops[i]? = some o → ∀ S vs W, S i = false → (∀ j, S j = true → ∀ x ∈ waits ops j, S x = true) → (∀ j ∈ waits ops i, S j = true) → J S vs W → ∀ ρ : Operand → Value,
      (∀ j t, S j = true → ds[j]? = some (some t) → t < a.tmps.size → ρ (.tmp t) = vs j) → (∀ t, (∀ j, ds[j]? = some (some t) → S j = false) → ρ (.tmp t) = a.tmps.getD t undef) → (∀ v, ρ (.const v) = v) →
      ∃ v W', J (fun j => S j || j == i) (fun j => if j = i then v else vs j) W' ∧ RunsTo P ρ o W v W')
    (hend : ∀ vs W, J (fun j => decide (j < ops.size)) vs W → Q .normal { a with tmps := frS (fun j => decide (j < ops.size)) vs 0 ds a.tmps } W) : (Code.region id ops true).wp P Q a w := by
  have hn : (ds.filterMap (_root_.id : Option Tmp → Option Tmp)).Nodup := by
    unfold dagOk at hok
    simp only [Bool.and_eq_true, decide_eq_true_eq] at hok
    exact hok.1.2
  refine wp_region_dag hm ds hok (fun S vs W => (∀ j, S j = true → ∀ x ∈ waits ops j, S x = true) ∧ J S vs W) (fun vs => ⟨(fun j h => by cases h), h0 vs⟩) ?_ (fun vs W h => hend vs W h.2)
  rintro i o ho S vs W hS hpre ⟨hcl, hJ⟩
  have hcl' : ∀ j, (S j || j == i) = true → ∀ x ∈ waits ops j, (S x || x == i) = true := by
    intro j hj x hx
    by_cases e : j = i
    · subst e; rw [hpre x hx]; rfl
    · have : (j == i) = false := beq_eq_false_iff_ne.2 e
      rw [this, Bool.or_false] at hj
      rw [hcl j hj x hx]; rfl
  obtain ⟨v, W', hJ', hr⟩ := hstep i o ho S vs W hS hcl hpre hJ (Act.eval { a with tmps := frS S vs 0 ds a.tmps }) (fun j t hj ht hlt => ev_done hn j t ht hj hlt) (fun t ht => frS_undone2 S vs t ds 0 a.tmps (fun j hj => by rw [Nat.zero_add]; exact ht j hj)) (fun _ => rfl)
  exact dag_runs v hr ⟨hcl', hJ'⟩

/-! ### the region -/
abbrev opsZ : List Op := [.buildSlice 22 0 #[], .move (.tmp 5), .move (.tmp 11), .slice 22 (.tmp 58) none (some (.tmp 59)) none, .call { callee := .builtin .append, args := #[(.tmp 57), (.tmp 60)], argTypes := #[22, 22] }, .load 25 (.tmp 10), .buildSlice 22 1 #[(0, (.tmp 62))],
  .call { callee := .builtin .append, args := #[(.tmp 61), (.tmp 63)], argTypes := #[22, 22] }, .move (.tmp 5), .move (.tmp 11), .slice 22 (.tmp 65) (some (.tmp 66)) none none, .call { callee := .builtin .append, args := #[(.tmp 64), (.tmp 67)], argTypes := #[22, 22] }, .assign (.tmp 68)]
abbrev dsZ : List (Option Tmp) := [some 57, some 58, some 59, some 60, some 61, some 62, some 63, some 64, some 65, some 66, some 67, some 68, some 5]
abbrev needsZ : List (Nat × Nat) := [(3, 1), (3, 2), (4, 0), (4, 3), (6, 5), (7, 4), (7, 6), (10, 8), (10, 9), (11, 7), (11, 10), (12, 11), (12, 1), (12, 8)]
/-- What stands when a set of the operations is done. -/
structure JZ (w : World) (v : Value) (A : Option Addr) (n c q : Nat) (xs : List Value) (r s e : Int) (S : Nat → Bool) (vs : Nat → Value) (W : World) : Prop where
  b : Below w.heap.size w W
  m1 : S 1 = true → vs 1 = v
  m2 : S 2 = true → vs 2 = .int .i64 q
  m3 : S 3 = true → vs 3 = .slice A q c
  m5 : S 5 = true → vs 5 = .agg #[.int .i64 r, .int .i64 s, .int .i64 e]
  m8 : S 8 = true → vs 8 = v
  m9 : S 9 = true → vs 9 = .int .i64 q
  m10 : S 10 = true → vs 10 = sliced A q n c 3
  m0 : S 0 = true → S 4 = false → ∃ g, vs 0 = .slice (some ⟨g, 0, none⟩) 0 0 ∧ Blk W g 25 #[] ∧ w.heap.size ≤ g
  m4 : S 4 = true → S 7 = false → W.ownsRow w.heap.size 25 3 (vs 4) q (xs.take (q * 3))
  m6 : S 6 = true → S 7 = false → ∃ g, vs 6 = .slice (some ⟨g, 0, none⟩) 1 1 ∧ Blk W g 25 #[.int .i64 r, .int .i64 s, .int .i64 e]
  m7 : S 7 = true → S 11 = false → W.ownsRow w.heap.size 25 3 (vs 7) (q + 1) (xs.take (q * 3) ++ [.int .i64 r, .int .i64 s, .int .i64 e])
  m11 : S 11 = true → W.ownsRow w.heap.size 25 3 (vs 11) (n + 1) (xs.take (q * 3) ++ [.int .i64 r, .int .i64 s, .int .i64 e] ++ xs.drop (q * 3))
  m12 : S 12 = true → vs 12 = vs 11
section
variable {w : World} {v : Value} {A : Option Addr} {n c q : Nat} {xs : List Value} {r s e : Int} {S : Nat → Bool} {vs : Nat → Value} {W : World}
/-- What does not turn the world. -/
theorem JZ.pure (h : JZ w v A n c q xs r s e S vs W) (i : Nat) (hi : i = 1 ∨ i = 2 ∨ i = 3 ∨ i = 5 ∨ i = 8 ∨ i = 9 ∨ i = 10 ∨ i = 12) (x : Value)
    (e1 : i = 1 → x = v) (e2 : i = 2 → x = .int .i64 q) (e3 : i = 3 → x = .slice A q c) (e5 : i = 5 → x = .agg #[.int .i64 r, .int .i64 s, .int .i64 e]) (e8 : i = 8 → x = v) (e9 : i = 9 → x = .int .i64 q) (e10 : i = 10 → x = sliced A q n c 3) (e12 : i = 12 → x = vs 11) :
    JZ w v A n c q xs r s e (fun j => S j || j == i) (fun j => if j = i then x else vs j) W := by
  obtain ⟨b, m1, m2, m3, m5, m8, m9, m10, m0, m4, m6, m7, m11, m12⟩ := h
  rcases hi with rfl | rfl | rfl | rfl | rfl | rfl | rfl | rfl <;> constructor <;> first | exact b | (simp; done) | (simp; assumption) | (simp; first | exact e1 rfl | exact e2 rfl | exact e3 rfl | exact e5 rfl | exact e8 rfl | exact e9 rfl | exact e10 rfl | exact e12 rfl) | (simp; simp_all; done)
end
theorem z_buildNil (ρ : Operand → Value) (W : World) (o : Oper) (ho : o.op = .buildSlice 22 0 #[]) : (execOp ρ o).run Tryz.prog W = .ok (.value (.slice (some ⟨W.heap.size, 0, none⟩) 0 0)) (W.alloc (.cells #[] 25)) := by
  unfold execOp
  rw [ho]
  go_simp
theorem z_buildOne (ρ : Operand → Value) (W : World) (o : Oper) (x : Operand) (ho : o.op = .buildSlice 22 1 #[(0, x)]) (a b c : Int) (hx : ρ x = .agg #[.int .i64 a, .int .i64 b, .int .i64 c]) : (execOp ρ o).run Tryz.prog W = .ok (.value (.slice (some ⟨W.heap.size, 0, none⟩) 1 1)) (W.alloc (.cells #[.int .i64 a, .int .i64 b, .int .i64 c] 25)) := by
  unfold execOp
  rw [ho]
  go_simp
theorem z_loadItem (ρ : Operand → Value) (W : World) (o : Oper) (x : Operand) (ho : o.op = .load 25 x) (p : Nat) (hx : ρ x = .pointer (some ⟨p, 0, none⟩)) (a b c : Int) (hp : Blk W p 25 #[.int .i64 a, .int .i64 b, .int .i64 c]) : (execOp ρ o).run Tryz.prog W = .ok (.value (.agg #[.int .i64 a, .int .i64 b, .int .i64 c])) W := by
  have h0 := hp.cell 0
  have h1 := hp.cell 1
  have h2 := hp.cell 2
  unfold execOp
  rw [ho]
  go_simp
theorem z_sliceTo (ρ : Operand → Value) (W : World) (o : Oper) (x y : Operand) (ho : o.op = .slice 22 x none (some y) none) (A : Option Addr) (n c q : Nat) (hx : ρ x = .slice A n c) (hy : ρ y = .int .i64 q) (hqc : q ≤ c) : (execOp ρ o).run Tryz.prog W = .ok (.value (.slice A q c)) W := by
  unfold execOp
  rw [ho]
  go_simp
theorem z_sliceFrom (ρ : Operand → Value) (W : World) (o : Oper) (x y : Operand) (ho : o.op = .slice 22 x (some y) none none) (A : Option Addr) (n c q : Nat) (hx : ρ x = .slice A n c) (hy : ρ y = .int .i64 q) (hqn : q ≤ n) (hnc : n ≤ c) : (execOp ρ o).run Tryz.prog W = .ok (.value (sliced A q n c 3)) W := by
  unfold execOp
  rw [ho]
  unfold sliced
  go_simp
theorem r_append_more {P : Program} (w : World) {t e : TypeId} {size bytes : Nat} (T : SlT P t e size bytes) (ρ : Operand → Value) (o : Oper) (s x : Operand)
    (ho : o.op = .call { callee := .builtin .append, args := #[s, x], argTypes := #[t, t] })
    (base : Nat) (v : Value) (n : Nat) (xs : List Value) (hs : ρ s = v) (hown : w.ownsRow base e size v n xs)
    (A : Option Addr) (m c : Nat) (news : List Value) (hx : ρ x = .slice A m c) (hA : A = none → m = 0 ∧ c = 0) (hl : news.length = m * size) (hnews : ∀ ad, A = some ad → ∀ j u, news[j]? = some u → w.cell? (ad.add j) = some u) (h1 : ∀ u ∈ news, u.oneCell' = true)
    (hbytes : (n + m) * bytes ≤ 140737488355328) (hbase : base ≤ w.heap.size) :
    ∃ v' w', (execOp ρ o).run P w = .ok (.value v') w' ∧ w'.ownsRow base e size v' (n + m) (xs ++ news) ∧ w.grownBy w' v.ownBlock := by
  cases A with
  | some ad =>
    obtain ⟨v', w', r1, r2, r3, _⟩ := r_append w T ρ o s x ho base _ n xs hs hown ad m c news hx hl (hnews ad rfl) h1 hbytes hbase
    exact ⟨v', w', r1, r2, r3⟩
  | none =>
    obtain ⟨rfl, rfl⟩ := hA rfl
    have : news = [] := List.length_eq_zero_iff.1 (by simpa using hl)
    subst this
    have hc : ∃ B k, v = .slice B n k ∧ n ≤ k := by
      rcases hown.2 with ⟨h0, hn0⟩ | ⟨g', cap', cur, hv, hb, hg, hnc, hcm, hcs, ht⟩
      · exact ⟨none, 0, by rw [h0, hn0], by omega⟩
      · exact ⟨_, cap', hv, hnc⟩
    obtain ⟨B, k, rfl, hk⟩ := hc
    obtain ⟨i, hi, _⟩ := Option.map_eq_some_iff.1 T.hi
    have hr := run_append_nil w t o.type e i T.ht hi B n k hk
    refine ⟨.slice B n k, w, ?_, by rw [List.append_nil]; exact hown, ⟨rfl, rfl, rfl, Nat.le_refl _, fun _ _ _ => rfl⟩⟩
    unfold execOp
    simp only [ho, resolve, invoke, builtin, Sem.run_bind, Sem.run_pure, Result.andThen_ok, List.map_toArray, List.map_cons, List.map_nil, hs, hx, hr]
section
variable {w : World} {v : Value} {A : Option Addr} {n c q : Nat} {xs : List Value} {r s e : Int} {S : Nat → Bool} {vs : Nat → Value} {W : World}
theorem bfalse {a b : Bool} (h : a = true → b = true) (hb : b = false) : a = false := by cases a with | false => rfl | true => rw [h rfl] at hb; cases hb
theorem JZ.put0 (h : JZ w v A n c q xs r s e S vs W) (h0 : S 0 = false) (o4 : S 4 = true → S 0 = true) (o7 : S 7 = true → S 4 = true) (o11 : S 11 = true → S 7 = true) (o12 : S 12 = true → S 11 = true) :
    JZ w v A n c q xs r s e (fun j => S j || j == 0) (fun j => if j = 0 then .slice (some ⟨W.heap.size, 0, none⟩) 0 0 else vs j) (W.alloc (.cells #[] 25)) := by
  have f4 := bfalse o4 h0
  have f7 := bfalse o7 f4
  have f11 := bfalse o11 f7
  have f12 := bfalse o12 f11
  have hb := alloc_below W (.cells #[] 25)
  obtain ⟨b, m1, m2, m3, m5, m8, m9, m10, m0, m4, m6, m7, m11, m12⟩ := h
  constructor
  · exact b.trans (hb.mono b.size)
  all_goals first | (simp; assumption) | (simp [f4, f7, f11, f12]; done) | skip
  · intro _ _
    exact ⟨W.heap.size, rfl, row_new _ _, b.size⟩
  · intro a1 a2
    obtain ⟨g, e1, e2⟩ := m6 (by simpa using a1) f7
    exact ⟨g, by simpa using e1, e2.below hb⟩
theorem JZ.put6 (h : JZ w v A n c q xs r s e S vs W) (h6 : S 6 = false) (o7 : S 7 = true → S 6 = true) (o11 : S 11 = true → S 7 = true) (o12 : S 12 = true → S 11 = true) :
    JZ w v A n c q xs r s e (fun j => S j || j == 6) (fun j => if j = 6 then .slice (some ⟨W.heap.size, 0, none⟩) 1 1 else vs j) (W.alloc (.cells #[.int .i64 r, .int .i64 s, .int .i64 e] 25)) := by
  have f7 := bfalse o7 h6
  have f11 := bfalse o11 f7
  have f12 := bfalse o12 f11
  have hb := alloc_below W (.cells #[.int .i64 r, .int .i64 s, .int .i64 e] 25)
  obtain ⟨b, m1, m2, m3, m5, m8, m9, m10, m0, m4, m6, m7, m11, m12⟩ := h
  constructor
  · exact b.trans (hb.mono b.size)
  all_goals first | (simp; assumption) | (simp [f7, f11, f12]; done) | skip
  · intro a1 a2
    obtain ⟨g, e1, e2, e3⟩ := m0 (by simpa using a1) (by simpa using a2)
    exact ⟨g, by simpa using e1, e2.below hb, e3⟩
  · intro a1 a2
    have := own_below (m4 (by simpa using a1) f7) hb
    simpa using this
  · intro _ _
    exact ⟨W.heap.size, rfl, row_new _ _⟩
theorem JZ.put4 (h : JZ w v A n c q xs r s e S vs W) (h4 : S 4 = false) (h0 : S 0 = true) (o7 : S 7 = true → S 4 = true) (o11 : S 11 = true → S 7 = true) (o12 : S 12 = true → S 11 = true) {v' : Value} {W' : World}
    (hown : W'.ownsRow w.heap.size 25 3 v' q (xs.take (q * 3))) (hg : W.grownBy W' (vs 0).ownBlock) :
    JZ w v A n c q xs r s e (fun j => S j || j == 4) (fun j => if j = 4 then v' else vs j) W' := by
  have f7 := bfalse o7 h4
  have f11 := bfalse o11 f7
  have f12 := bfalse o12 f11
  obtain ⟨b, m1, m2, m3, m5, m8, m9, m10, m0, m4, m6, m7, m11, m12⟩ := h
  obtain ⟨g, eg, hG, hgl⟩ := m0 h0 h4
  constructor
  · exact b.grown hg b.size (fun k hk => by rw [eg] at hk; cases hk; exact hgl)
  all_goals first | (simp; assumption) | (simp [f7, f11, f12]; done) | skip
  · intro _ _
    exact hown
  · intro a1 a2
    obtain ⟨g6, e1, e2⟩ := m6 (by simpa using a1) f7
    refine ⟨g6, by simpa using e1, e2.grown hg ?_⟩
    rw [eg]
    intro hh
    have hh : g6 = g := by simpa [Value.ownBlock] using hh
    subst hh
    unfold Blk at hG e2
    rw [hG] at e2
    injection e2 with e2
    injection e2 with e3 e4
    have := congrArg Array.size e3
    simp at this
theorem JZ.put7 (h : JZ w v A n c q xs r s e S vs W) (h7 : S 7 = false) (h4 : S 4 = true) (o11 : S 11 = true → S 7 = true) (o12 : S 12 = true → S 11 = true) {v' : Value} {W' : World}
    (hown : W'.ownsRow w.heap.size 25 3 v' (q + 1) (xs.take (q * 3) ++ [.int .i64 r, .int .i64 s, .int .i64 e])) (hg : W.grownBy W' (vs 4).ownBlock) :
    JZ w v A n c q xs r s e (fun j => S j || j == 7) (fun j => if j = 7 then v' else vs j) W' := by
  have f11 := bfalse o11 h7
  have f12 := bfalse o12 f11
  obtain ⟨b, m1, m2, m3, m5, m8, m9, m10, m0, m4, m6, m7, m11, m12⟩ := h
  constructor
  · exact b.grown hg b.size (fun k hk => (own_lt (m4 h4 h7) k hk).1)
  all_goals first | (simp; assumption) | (simp [h4, f11, f12]; done) | skip
  · intro _ _
    exact hown
theorem JZ.put11 (h : JZ w v A n c q xs r s e S vs W) (h11 : S 11 = false) (h7 : S 7 = true) (h4 : S 4 = true) (o12 : S 12 = true → S 11 = true) {v' : Value} {W' : World}
    (hown : W'.ownsRow w.heap.size 25 3 v' (n + 1) (xs.take (q * 3) ++ [.int .i64 r, .int .i64 s, .int .i64 e] ++ xs.drop (q * 3))) (hg : W.grownBy W' (vs 7).ownBlock) :
    JZ w v A n c q xs r s e (fun j => S j || j == 11) (fun j => if j = 11 then v' else vs j) W' := by
  have f12 := bfalse o12 h11
  obtain ⟨b, m1, m2, m3, m5, m8, m9, m10, m0, m4, m6, m7, m11, m12⟩ := h
  constructor
  · exact b.grown hg b.size (fun k hk => (own_lt (m7 h7 h11) k hk).1)
  all_goals first | (simp; assumption) | (simp [h4, h7, f12]; done) | skip
  · intro _
    exact hown
end
set_option maxHeartbeats 1600000 in
theorem regionZ (a : Act) (ops : Array Oper) (rid : Nat) (Q : Exit → Act → World → Prop) (w : World) (A : Option Addr) (n c q xb B : Nat) (xs : List Value) (r s e : Int)
    (hops : ops.toList.map (·.op) = opsZ) (hok : dagOk ops dsZ = true) (hnd : needsOk2 ops needsZ = true) (hsz : 69 ≤ a.tmps.size)
    (h5 : a.tmps.getD 5 undef = .slice A n c) (h10 : a.tmps.getD 10 undef = .pointer (some ⟨xb, 0, none⟩)) (h11 : a.tmps.getD 11 undef = .int .i64 q)
    (hX : Blk w xb 25 #[.int .i64 r, .int .i64 s, .int .i64 e]) (hr : w.ownsRow B 25 3 (.slice A n c) n xs) (hone : ∀ u ∈ xs, u.oneCell' = true) (hqn : q ≤ n) (hcap : (n + 1) * 24 ≤ 140737488355328)
    (hend : ∀ V w', w'.ownsRow w.heap.size 25 3 (V 12) (n + 1) (xs.take (q * 3) ++ [.int .i64 r, .int .i64 s, .int .i64 e] ++ xs.drop (q * 3)) → Below w.heap.size w w' →
      Q .normal { a with tmps := frS (fun j => decide (j < 13)) V 0 dsZ a.tmps } w') :
    (Code.region rid ops true).wp Tryz.prog Q a w := by
  have hlen : ops.size = 13 := by have := congrArg List.length hops; simpa using this
  have hop : ∀ (i : Nat) (o : Oper), ops[i]? = some o → ∀ x, opsZ[i]? = some x → o.op = x := by
    intro i o ho x hx
    rw [← hops, List.getElem?_map, Array.getElem?_toList, ho] at hx
    simpa using hx
  have hlt : ∀ t, t < 69 → t < a.tmps.size := fun t ht => by omega
  have hnc : n ≤ c := by
    rcases hr.2 with ⟨e1, e2⟩ | ⟨g, cap, cur, e1, _, _, h, _⟩
    · omega
    · injection e1 with _ _ e3
      omega
  have hAn : A = none → n = 0 ∧ c = 0 := by
    rintro rfl
    rcases hr.2 with ⟨e1, e2⟩ | ⟨g, cap, cur, e1, _⟩
    · injection e1 with _ e2 e3
      exact ⟨e2, e3⟩
    · injection e1 with e1
      cases e1
  have hxl : xs.length = n * 3 := hr.1
  have hcell : ∀ W, Below w.heap.size w W → ∀ ad, A = some ad → ∀ j u, xs[j]? = some u → W.cell? (ad.add j) = some u := by
    rintro W hb ad rfl j u hu
    have hr' := own_below hr hb
    obtain ⟨g, rfl⟩ : ∃ g, ad = ⟨g, 0, none⟩ := by
      rcases hr'.2 with ⟨e1, _⟩ | ⟨g, cap, cur, e1, _⟩
      · cases e1
      · injection e1 with e1; injection e1 with e1; exact ⟨g, e1⟩
    exact hr'.cells rfl j u hu
  rw [← hlen] at hend
  refine wp_region_set (by kernel_rfl) dsZ hok (JZ w (.slice A n c) A n c q xs r s e) ?_ ?_ ?_
  · intro vs
    refine ⟨⟨rfl, rfl, rfl, Nat.le_refl _, fun _ _ => rfl⟩, ?_, ?_, ?_, ?_, ?_, ?_, ?_, ?_, ?_, ?_, ?_, ?_, ?_⟩ <;> intro h <;> cases h
  · intro i o ho S vs W hS hcl hpre hJ ρ hdone hund hcon
    have hi : i < 13 := by rw [← hlen]; exact (Array.getElem?_eq_some_iff.1 ho).1
    have o40 : S 4 = true → S 0 = true := fun h => hcl 4 h 0 (needs2_get hnd 4 0 (by decide))
    have o74 : S 7 = true → S 4 = true := fun h => hcl 7 h 4 (needs2_get hnd 7 4 (by decide))
    have o76 : S 7 = true → S 6 = true := fun h => hcl 7 h 6 (needs2_get hnd 7 6 (by decide))
    have o117 : S 11 = true → S 7 = true := fun h => hcl 11 h 7 (needs2_get hnd 11 7 (by decide))
    have o12b : S 12 = true → S 11 = true := fun h => hcl 12 h 11 (needs2_get hnd 12 11 (by decide))
    have o121 : S 12 = true → S 1 = true := fun h => hcl 12 h 1 (needs2_get hnd 12 1 (by decide))
    have o128 : S 12 = true → S 8 = true := fun h => hcl 12 h 8 (needs2_get hnd 12 8 (by decide))
    have e10 : ρ (.tmp 10) = .pointer (some ⟨xb, 0, none⟩) := (hund 10 (fun j hj => by
      have hj13 : j < 13 := (List.getElem?_eq_some_iff.1 hj).1
      rcases (by omega : j = 0 ∨ j = 1 ∨ j = 2 ∨ j = 3 ∨ j = 4 ∨ j = 5 ∨ j = 6 ∨ j = 7 ∨ j = 8 ∨ j = 9 ∨ j = 10 ∨ j = 11 ∨ j = 12) with rfl | rfl | rfl | rfl | rfl | rfl | rfl | rfl | rfl | rfl | rfl | rfl | rfl <;> simp [dsZ] at hj)).trans h10
    have e11 : ρ (.tmp 11) = .int .i64 q := (hund 11 (fun j hj => by
      have hj13 : j < 13 := (List.getElem?_eq_some_iff.1 hj).1
      rcases (by omega : j = 0 ∨ j = 1 ∨ j = 2 ∨ j = 3 ∨ j = 4 ∨ j = 5 ∨ j = 6 ∨ j = 7 ∨ j = 8 ∨ j = 9 ∨ j = 10 ∨ j = 11 ∨ j = 12) with rfl | rfl | rfl | rfl | rfl | rfl | rfl | rfl | rfl | rfl | rfl | rfl | rfl <;> simp [dsZ] at hj)).trans h11
    have e5 : S 12 = false → ρ (.tmp 5) = .slice A n c := fun hs => (hund 5 (fun j hj => by
      have hj13 : j < 13 := (List.getElem?_eq_some_iff.1 hj).1
      rcases (by omega : j = 0 ∨ j = 1 ∨ j = 2 ∨ j = 3 ∨ j = 4 ∨ j = 5 ∨ j = 6 ∨ j = 7 ∨ j = 8 ∨ j = 9 ∨ j = 10 ∨ j = 11 ∨ j = 12) with rfl | rfl | rfl | rfl | rfl | rfl | rfl | rfl | rfl | rfl | rfl | rfl | rfl <;> first | exact hs | simp [dsZ] at hj)).trans h5
    have dn : ∀ i j t, (∀ x ∈ waits ops i, S x = true) → j ∈ waits ops i → dsZ[j]? = some (some t) → t < 69 → ρ (.tmp t) = vs j := fun i j t h1 h2 h3 h4 => hdone j t (h1 j h2) h3 (hlt t h4)
    match i, hi with
    | 0, _ => exact ⟨_, _, hJ.put0 hS o40 o74 o117 o12b, .inl (z_buildNil ρ W o (hop _ _ ho _ rfl))⟩
    | 1, _ =>
      refine ⟨_, W, hJ.pure 1 (by omega) (.slice A n c) (fun _ => rfl) (by simp) (by simp) (by simp) (by simp) (by simp) (by simp) (by simp), .inl ?_⟩
      rw [← e5 (bfalse o121 hS)]
      exact r_move _ _ _ o _ (hop _ _ ho _ rfl)
    | 2, _ =>
      refine ⟨_, W, hJ.pure 2 (by omega) (.int .i64 q) (by simp) (fun _ => rfl) (by simp) (by simp) (by simp) (by simp) (by simp) (by simp), .inl ?_⟩
      rw [← e11]
      exact r_move _ _ _ o _ (hop _ _ ho _ rfl)
    | 3, _ =>
      have w1 := needs2_get hnd 3 1 (by decide)
      have w2 := needs2_get hnd 3 2 (by decide)
      have q1 := (dn 3 1 58 hpre w1 rfl (by decide)).trans (hJ.m1 (hpre 1 w1))
      have q2 := (dn 3 2 59 hpre w2 rfl (by decide)).trans (hJ.m2 (hpre 2 w2))
      exact ⟨_, W, hJ.pure 3 (by omega) (.slice A q c) (by simp) (by simp) (fun _ => rfl) (by simp) (by simp) (by simp) (by simp) (by simp), .inl (z_sliceTo ρ W o _ _ (hop _ _ ho _ rfl) A n c q q1 q2 (by omega))⟩
    | 4, _ =>
      have w0 := needs2_get hnd 4 0 (by decide)
      have w3 := needs2_get hnd 4 3 (by decide)
      obtain ⟨g, eg, hG, hgl⟩ := hJ.m0 (hpre 0 w0) hS
      have q0 := dn 4 0 57 hpre w0 rfl (by decide)
      have q3 := (dn 4 3 60 hpre w3 rfl (by decide)).trans (hJ.m3 (hpre 3 w3))
      have hown0 : W.ownsRow w.heap.size 25 3 (vs 0) 0 [] := ⟨rfl, .inr ⟨g, 0, #[], eg, hgl, hG, Nat.le_refl _, by unfold maxLen; omega, rfl, rfl⟩⟩
      obtain ⟨v', W', r1, r2, r3⟩ := r_append_more W slItem ρ o _ _ (hop _ _ ho _ rfl) w.heap.size (vs 0) 0 [] q0 hown0 A q c (xs.take (q * 3)) q3 (fun h => by have := hAn h; omega) (by rw [List.length_take]; omega) (fun ad h j u hu => hcell W hJ.b ad h j u (by
        rw [List.getElem?_take] at hu
        split at hu
        · exact hu
        · cases hu)) (fun u hu => hone u (List.mem_of_mem_take hu)) (by omega) hJ.b.size
      rw [Nat.zero_add, List.nil_append] at r2
      exact ⟨v', W', hJ.put4 hS (hpre 0 w0) o74 o117 o12b r2 r3, .inl r1⟩
    | 5, _ =>
      exact ⟨_, W, hJ.pure 5 (by omega) (.agg #[.int .i64 r, .int .i64 s, .int .i64 e]) (by simp) (by simp) (by simp) (fun _ => rfl) (by simp) (by simp) (by simp) (by simp), .inl (z_loadItem ρ W o _ (hop _ _ ho _ rfl) xb e10 r s e (hX.below hJ.b))⟩
    | 6, _ =>
      have w5 := needs2_get hnd 6 5 (by decide)
      have q5 := (dn 6 5 62 hpre w5 rfl (by decide)).trans (hJ.m5 (hpre 5 w5))
      exact ⟨_, _, hJ.put6 hS o76 o117 o12b, .inl (z_buildOne ρ W o _ (hop _ _ ho _ rfl) r s e q5)⟩
    | 7, _ =>
      have w4 := needs2_get hnd 7 4 (by decide)
      have w6 := needs2_get hnd 7 6 (by decide)
      have q4 := dn 7 4 61 hpre w4 rfl (by decide)
      obtain ⟨g, eg, hG⟩ := hJ.m6 (hpre 6 w6) hS
      have q6 := (dn 7 6 63 hpre w6 rfl (by decide)).trans eg
      obtain ⟨v', W', r1, r2, r3⟩ := r_append_more W slItem ρ o _ _ (hop _ _ ho _ rfl) w.heap.size (vs 4) q _ q4 (hJ.m4 (hpre 4 w4) hS) (some ⟨g, 0, none⟩) 1 1 [.int .i64 r, .int .i64 s, .int .i64 e] q6 (fun h => by cases h) rfl (fun ad h => by cases h; exact hG.at_) (by intro u hu; simp at hu; rcases hu with rfl | rfl | rfl <;> rfl) (by omega) hJ.b.size
      exact ⟨v', W', hJ.put7 hS (hpre 4 w4) o117 o12b r2 r3, .inl r1⟩
    | 8, _ =>
      refine ⟨_, W, hJ.pure 8 (by omega) (.slice A n c) (by simp) (by simp) (by simp) (by simp) (fun _ => rfl) (by simp) (by simp) (by simp), .inl ?_⟩
      rw [← e5 (bfalse o128 hS)]
      exact r_move _ _ _ o _ (hop _ _ ho _ rfl)
    | 9, _ =>
      refine ⟨_, W, hJ.pure 9 (by omega) (.int .i64 q) (by simp) (by simp) (by simp) (by simp) (by simp) (fun _ => rfl) (by simp) (by simp), .inl ?_⟩
      rw [← e11]
      exact r_move _ _ _ o _ (hop _ _ ho _ rfl)
    | 10, _ =>
      have w8 := needs2_get hnd 10 8 (by decide)
      have w9 := needs2_get hnd 10 9 (by decide)
      have q8 := (dn 10 8 65 hpre w8 rfl (by decide)).trans (hJ.m8 (hpre 8 w8))
      have q9 := (dn 10 9 66 hpre w9 rfl (by decide)).trans (hJ.m9 (hpre 9 w9))
      exact ⟨_, W, hJ.pure 10 (by omega) (sliced A q n c 3) (by simp) (by simp) (by simp) (by simp) (by simp) (by simp) (fun _ => rfl) (by simp), .inl (z_sliceFrom ρ W o _ _ (hop _ _ ho _ rfl) A n c q q8 q9 hqn hnc)⟩
    | 11, _ =>
      have w7 := needs2_get hnd 11 7 (by decide)
      have w10 := needs2_get hnd 11 10 (by decide)
      have q7 := dn 11 7 64 hpre w7 rfl (by decide)
      have q10 := (dn 11 10 67 hpre w10 rfl (by decide)).trans (hJ.m10 (hpre 10 w10))
      unfold sliced at q10
      obtain ⟨v', W', r1, r2, r3⟩ := r_append_more W slItem ρ o _ _ (hop _ _ ho _ rfl) w.heap.size (vs 7) (q + 1) _ q7 (hJ.m7 (hpre 7 w7) hS) _ (n - q) (c - q) (xs.drop (q * 3)) q10 (fun h => by
        split at h
        · have := hAn h; omega
        · have := hAn (by cases A with | none => rfl | some _ => cases h); omega) (by rw [List.length_drop, hxl, Nat.sub_mul]) (fun ad h j u hu => by
        rw [List.getElem?_drop] at hu
        split at h
        · rename_i hcq
          have := (List.getElem?_eq_some_iff.1 hu).1
          omega
        · cases A with
          | none => cases h
          | some ad' =>
            cases h
            have := hcell W hJ.b ad' rfl (q * 3 + j) u hu
            rw [Addr.add_add]
            exact this) (fun u hu => hone u (List.mem_of_mem_drop hu)) (by omega) hJ.b.size
      rw [show q + 1 + (n - q) = n + 1 by omega] at r2
      exact ⟨v', W', hJ.put11 hS (hpre 7 w7) (o74 (hpre 7 w7)) o12b r2 r3, .inl r1⟩
    | 12, _ =>
      have w11 := needs2_get hnd 12 11 (by decide)
      have q11 := dn 12 11 68 hpre w11 rfl (by decide)
      refine ⟨_, W, hJ.pure 12 (by omega) (vs 11) (by simp) (by simp) (by simp) (by simp) (by simp) (by simp) (by simp) (fun _ => rfl), .inl ?_⟩
      rw [← q11]
      exact r_assign _ _ _ o _ (hop _ _ ho _ rfl)
  · intro vs W h
    have h11' := h.m11 (by simp [hlen])
    have h12' := h.m12 (by simp [hlen])
    rw [← h12'] at h11'
    exact hend vs W h11' h.b
end Go.Proofs.YthoegenipbohmaaGreatDoor

namespace Go.Proofs.YthoegenipbohmaaGreatDoor
open Go.RowKit Go.Sort Stb
set_option linter.unusedVariables false
set_option linter.unusedSimpArgs false
def itsG (D : Int → List Int) (xs : List It) : List It := xs.flatMap fun x => (D x.r).map fun r => (⟨r, x.s, x.e⟩ : It)
def cl8 (K : Int → Int) (x : It) : Int := K x.r
theorem itsG_snoc (D : Int → List Int) (xs : List It) (x : It) : itsG D (xs ++ [x]) = itsG D xs ++ (D x.r).map fun r => (⟨r, x.s, x.e⟩ : It) := by
  unfold itsG
  rw [List.flatMap_append]
  simp
theorem itsG_take_le (D : Int → List Int) (xs : List It) (k : Nat) : (itsG D (xs.take k)).length ≤ (itsG D xs).length := by
  conv => rhs; rw [← List.take_append_drop k xs]
  unfold itsG
  rw [List.flatMap_append, List.length_append]
  omega
theorem nfd_its (D : Int → List Int) (K : Int → Int) (xs : List It) : nfdG D K xs = Nrm.ord (cl8 K) (itsG D xs) := by
  have e : partsG D K xs = (itsG D xs).map fun y => mkPart K y y.r := by
    unfold partsG itsG
    rw [List.map_flatMap]
    congr 1
    funext x
    rw [List.map_map]
    rfl
  unfold nfdG
  rw [e, Nrm.ord_map (cl := cl8 K) (cl' := ptKey) (fun y => mkPart K y y.r) (fun _ => rfl), List.map_map]
  exact List.map_id _
theorem ord_len (cl : It → Int) (l : List It) : (Nrm.ord cl l).length = l.length := (Nrm.ord_perm l).length_eq
theorem ins_at {cl : It → Int} {l : List It} {y : It} {at_ : Nat} (h : at_ ≤ l.length) (hc : 0 < cl y) (h1 : ∀ z ∈ l.drop at_, cl y < cl z) (h2 : at_ = 0 ∨ ∃ z, l[at_ - 1]? = some z ∧ cl z ≤ cl y) : Nrm.ins cl l y = l.take at_ ++ y :: l.drop at_ := by
  have hw : l.reverse = (l.drop at_).reverse ++ (l.take at_).reverse := by rw [← List.reverse_append, List.take_append_drop]
  have hall : ∀ x ∈ (l.drop at_).reverse, (decide (cl y < cl x)) = true := fun x hx => by simpa using h1 x (List.mem_reverse.1 hx)
  have hstop : ∀ x, (l.take at_).reverse.head? = some x → ¬ (decide (cl y < cl x)) = true := by
    intro x hx
    rw [List.head?_reverse, List.getLast?_eq_getElem?, List.length_take, Nat.min_eq_left h] at hx
    rcases h2 with rfl | ⟨z, hz, hz2⟩
    · simp at hx
    · by_cases h0 : at_ = 0
      · subst h0; simp at hx
      · rw [List.getElem?_take, if_pos (by omega), hz] at hx
        cases hx
        simp; omega
  have e1 : l.reverse.takeWhile (fun x => decide (cl y < cl x)) = (l.drop at_).reverse := by
    rw [hw, List.takeWhile_append_of_pos hall]
    cases hh : (l.take at_).reverse with
    | nil => simp
    | cons a t =>
      have := hstop a (by rw [hh]; rfl)
      rw [List.takeWhile_cons, if_neg this, List.append_nil]
  have e2 : l.reverse.dropWhile (fun x => decide (cl y < cl x)) = (l.take at_).reverse := by
    rw [hw, List.dropWhile_append_of_pos hall]
    cases hh : (l.take at_).reverse with
    | nil => rfl
    | cons a t =>
      have := hstop a (by rw [hh]; rfl)
      rw [List.dropWhile_cons, if_neg this]
  unfold Nrm.ins Nrm.under Nrm.over
  rw [if_pos hc, e1, e2, List.reverse_reverse, List.reverse_reverse]
theorem ins_last {cl : It → Int} {l : List It} {y : It} (hc : ¬ 0 < cl y) : Nrm.ins cl l y = l.take l.length ++ y :: l.drop l.length := by
  unfold Nrm.ins
  rw [if_neg hc, List.take_length, List.drop_length]
theorem its_put (ys : List It) (at_ : Nat) (y : It) (h : at_ ≤ ys.length) : (ys.flatMap itCells).take (at_ * 3) ++ [.int .i64 y.r, .int .i64 y.s, .int .i64 y.e] ++ (ys.flatMap itCells).drop (at_ * 3) = (ys.take at_ ++ y :: ys.drop at_).flatMap itCells := by
  have hl : ∀ l : List It, (l.flatMap itCells).length = l.length * 3 := by
    intro l
    induction l with
    | nil => rfl
    | cons a t ih => rw [List.flatMap_cons, List.length_append, ih, it_len, List.length_cons]; omega
  have e : ys.flatMap itCells = (ys.take at_).flatMap itCells ++ (ys.drop at_).flatMap itCells := by rw [← List.flatMap_append, List.take_append_drop]
  have h3 : ((ys.take at_).flatMap itCells).length = at_ * 3 := by rw [hl, List.length_take, Nat.min_eq_left h]
  rw [e, ← h3, List.take_left, List.drop_left, List.flatMap_append, List.flatMap_cons]
  simp [itCells]
theorem its_one (ys : List It) : ∀ u ∈ ys.flatMap itCells, u.oneCell' = true := by
  intro u hu
  obtain ⟨y, _, hu⟩ := List.mem_flatMap.1 hu
  simp [itCells] at hu
  rcases hu with rfl | rfl | rfl <;> rfl
end Go.Proofs.YthoegenipbohmaaGreatDoor

namespace Go.Proofs.YthoegenipbohmaaGreatDoor
open Go.RowKit Go.Sort Stb
set_option linter.unusedVariables false
set_option linter.unusedSimpArgs false
set_option maxRecDepth 100000 in
set_option maxHeartbeats 6400000 in
theorem items08_walk {w : World} {T : Value} {D : Int → List Int} {K : Int → Int} (hFull : ∀ W, Below w.heap.size w W → ∀ r, Calls Tryz.prog 59 #[T, .int .i64 r] W (CloneSaid (D r) W))
    (hComb : ∀ W, Below w.heap.size w W → ∀ r, Calls Tryz.prog 60 #[T, .int .i64 r] W fun e W' => e = .returned (.int .i64 (K r)) ∧ Below W.heap.size W W')
    {v : Value} {xs : List It} (hxs : ItsAt w v xs) (hlen : (itsG D xs).length ≤ 10000000) (hxl : xs.length ≤ 10000000) :
    Calls Tryz.prog 17 #[T, v] w (ItemsSaid (nfdG D K xs) w) := by
  rw [nfd_its]
  have HX := Lib.hid hxs
  obtain ⟨A1, c1, rfl, hn1, _⟩ := hxs
  have HF := Lib.hid hFull
  have HC := Lib.hid hComb
  have HTl := Lib.hid (fun k => itsG_take_le D xs k)
  clear hFull hComb
  go_enter Tryz.func17, Tryz.ntmps17
  go_wp2_with fail
  go_loopw [5, 15] (fun v5 i wr => ∃ k : Nat, k ≤ xs.length ∧ i = .int .i64 k ∧ Hid (ItemsAt wr w.heap.size v5 (Nrm.ord (cl8 K) (itsG D (xs.take k)))) ∧ Hid (Below w.heap.size w wr)) (fun _ i _ => xs.length - (intOf i).toNat)
  case atStart => exact ⟨0, by omega, rfl, World.ownsRow_nil _ _ _ _, Below.refl _ _⟩
  case round =>
    obtain ⟨k, hk, rfl, HU, HB⟩ := hrel
    by_cases hlt : k < xs.length
    · as_aux_lemma =>
      obtain ⟨A', c', e', _, hz⟩ := HX.out.below HB.out
      injection e' with e1 _ e3
      obtain ⟨ad, hA, hcell⟩ := hz (by omega)
      rw [← e1] at hA
      subst hA
      obtain ⟨q0, q1, q2⟩ := hcell k hlt
      obtain ⟨x, hx⟩ : ∃ x, x = xs[k] := ⟨_, rfl⟩
      rw [← hx] at q0 q1 q2
      have q1' : wr.cell? ⟨(ad.add (k * 3)).block, (ad.add (k * 3)).off + 1, none⟩ = some (.int .i64 x.s) := q1
      have q2' : wr.cell? ⟨(ad.add (k * 3)).block, (ad.add (k * 3)).off + 2, none⟩ = some (.int .i64 x.e) := q2
      clear q1 q2
      obtain ⟨ks, hks⟩ : ∃ ks, ks = itsG D (xs.take k) := ⟨_, rfl⟩
      rw [← hks] at HU
      have hsn : itsG D (xs.take (k + 1)) = ks ++ (D x.r).map fun r => (⟨r, x.s, x.e⟩ : It) := by
        rw [List.take_succ_eq_append_getElem hlt, ← hx, itsG_snoc, hks]
      have hle := HTl.out (k + 1)
      rw [hsn, List.length_append, List.length_map] at hle
      have hle2 : ks.length + (D x.r).length ≤ 10000000 := by omega
      have HSN := Lib.hid hsn
      obtain ⟨X, hX⟩ : ∃ X, X = Obj.cells #[Value.int IntKind.i64 x.r, Value.int IntKind.i64 x.s, Value.int IntKind.i64 x.e] 25 := ⟨_, rfl⟩
      have hbx := alloc_below wr X
      have HX7 := Lib.hid (show Blk (wr.alloc X) wr.heap.size 25 #[Value.int IntKind.i64 x.r, Value.int IntKind.i64 x.s, Value.int IntKind.i64 x.e] by rw [hX]; exact row_new _ _)
      have HU0 := Lib.hid (show ItemsAt (wr.alloc X) w.heap.size u5 (Nrm.ord (cl8 K) ks) from own_below HU.out hbx)
      have HB0 := Lib.hid (HB.out.trans (hbx.mono HB.out.size))
      rw [hX] at HX7 HU0 HB0
      clear hz hcell hx hsn hX hbx HU HB hks e3 e1 X hle
      go_upto_region 5 with fail
      clear q0 q1' q2'
      generalize wr.alloc _ = W1 at *
      generalize wr.heap.size = xb at *
      have q0 := HX7.out.cell 0
      have HFW := Lib.hid (HF.out W1 HB0.out x.r)
      go_wp2_with fail
      refine HFW.out.mono ?_
      rintro e w2 ⟨v22, rfl, hv22, hb2⟩
      have HX2 := Lib.hid (HX7.out.below hb2)
      have HU2 := Lib.hid (own_below HU0.out hb2)
      have HB2 := Lib.hid (HB0.out.trans (hb2.mono HB0.out.size))
      obtain ⟨A22, c22, rfl⟩ := own_slice hv22
      have HV := Lib.hid hv22
      clear hv22 hb2 HX7 HU0 HB0 HFW q0
      generalize D x.r = full at *
      generalize W1.heap.size = b22 at *
      clear W1
      go_wp2_with fail
      go_loopw [5, 24] (fun v5 i wx => ∃ q : Nat, q ≤ full.length ∧ i = .int .i64 q ∧ Hid (ItemsAt wx w.heap.size v5 (Nrm.ord (cl8 K) (ks ++ (full.take q).map fun r => (⟨r, x.s, x.e⟩ : It)))) ∧ Hid (Blk wx xb 25 #[Value.int IntKind.i64 x.r, Value.int IntKind.i64 x.s, Value.int IntKind.i64 x.e]) ∧ Hid (IntsAt wx b22 (.slice A22 full.length c22) full) ∧ Hid (Below w.heap.size w wx)) (fun _ i _ => full.length - (intOf i).toNat)
      case atStart => exact ⟨0, by omega, rfl, (show ItemsAt _ _ _ (Nrm.ord (cl8 K) (ks ++ _)) by rw [List.take_zero, List.map_nil, List.append_nil]; exact HU2.out), HX2, HV, HB2⟩
      case round =>
        clear HU2 HX2 HV HB2
        obtain ⟨q, hq, rfl, HU, HX7, HV, HB⟩ := hrel
        by_cases hqlt : q < full.length
        · as_aux_lemma =>
          obtain ⟨g22, cap22, hv, _⟩ := own_form HV.out (by omega)
          injection hv with hA hn0 hc0
          subst hA hc0
          clear hn0
          obtain ⟨r, hr⟩ : ∃ r, r = full.getD q 0 := ⟨_, rfl⟩
          have cq := own_cell HV.out q _ (intz_get full q hqlt)
          rw [← hr] at cq
          obtain ⟨ys, hys⟩ : ∃ ys, ys = Nrm.ord (cl8 K) (ks ++ (full.take q).map fun r => (⟨r, x.s, x.e⟩ : It)) := ⟨_, rfl⟩
          rw [← hys] at HU
          have HNx := Lib.hid (show Nrm.ins (cl8 K) ys ⟨r, x.s, x.e⟩ = Nrm.ord (cl8 K) (ks ++ (full.take (q + 1)).map fun r => (⟨r, x.s, x.e⟩ : It)) by
            rw [List.take_succ_eq_append_getElem hqlt, List.map_append, ← List.append_assoc, List.map_singleton, Nrm.ord_snoc, hys, hr, List.getD_eq_getElem?_getD, List.getElem?_eq_getElem hqlt]
            rfl)
          have hyl : ys.length ≤ 10000000 := by
            rw [hys, ord_len, List.length_append, List.length_map, List.length_take]
            omega
          clear hr hys
          have c1 := HX7.out.cell 1
          have c2 := HX7.out.cell 2
          obtain ⟨Y, hY⟩ : ∃ Y, Y = Obj.cells #[Value.int IntKind.i64 r, Value.int IntKind.i64 x.s, Value.int IntKind.i64 x.e] 25 := ⟨_, rfl⟩
          have hby := alloc_below wr Y
          have HY7 := Lib.hid (show Blk (wr.alloc Y) wr.heap.size 25 #[Value.int IntKind.i64 r, Value.int IntKind.i64 x.s, Value.int IntKind.i64 x.e] by rw [hY]; exact row_new _ _)
          have HU1 := Lib.hid (show ItemsAt (wr.alloc Y) w.heap.size u5 ys from own_below HU.out hby)
          have HX1 := Lib.hid (HX7.out.below hby)
          have HV1 := Lib.hid (own_below HV.out hby)
          have HB1 := Lib.hid (HB.out.trans (hby.mono HB.out.size))
          rw [hY] at HY7 HU1 HX1 HV1 HB1
          clear hby hY HU HX7 HV HB Y
          obtain ⟨A5, c5, rfl⟩ := own_slice HU1.out
          go_upto_region 9 with fail
          clear c1 c2 cq
          generalize wr.alloc _ = W1 at *
          generalize wr.heap.size = yb at *
          have HCW := Lib.hid (HC.out W1 HB1.out r)
          go_wp2_with fail
          refine HCW.out.mono ?_
          rintro e w3 ⟨rfl, hb3⟩
          have HY := Lib.hid (HY7.out.below hb3)
          have HU := Lib.hid (show ItemsAt w3 w.heap.size (.slice A5 ys.length c5) ys from own_below HU1.out hb3)
          have HX7 := Lib.hid (HX1.out.below hb3)
          have HV := Lib.hid (own_below HV1.out hb3)
          have HB := Lib.hid (HB1.out.trans (hb3.mono HB1.out.size))
          clear hb3 HY7 HU1 HX1 HV1 HB1 HCW
          by_cases hcp : 0 < K r
          · as_aux_lemma =>
            have d1 : decide (K r > 0) = true := by rw [decide_eq_true_eq]; exact hcp
            have HCP := Lib.hid hcp
            clear hcp
            go_wp2_with fail
            clear d1
            go_loopw [11] (fun va wx => ∃ at_ : Nat, at_ ≤ ys.length ∧ va = .int .i64 at_ ∧ Hid (∀ z ∈ ys.drop at_, K r < cl8 K z) ∧ Hid (Blk wx yb 25 #[Value.int IntKind.i64 r, Value.int IntKind.i64 x.s, Value.int IntKind.i64 x.e]) ∧ Hid (ItemsAt wx w.heap.size (.slice A5 ys.length c5) ys) ∧ Hid (Blk wx xb 25 #[Value.int IntKind.i64 x.r, Value.int IntKind.i64 x.s, Value.int IntKind.i64 x.e]) ∧ Hid (IntsAt wx b22 (.slice (some ⟨g22, 0, none⟩) full.length c22) full) ∧ Hid (Below w.heap.size w wx)) (fun va _ => (intOf va).toNat)
            case atStart => exact ⟨ys.length, Nat.le_refl _, rfl, (fun z hz => by rw [List.drop_length] at hz; cases hz), HY, HU, HX7, HV, HB⟩
            case round =>
              clear HY HU HX7 HV HB
              obtain ⟨at_, hatle, rfl, HAll, HY, HU, HX7, HV, HB⟩ := hrel
              by_cases h0 : at_ = 0
              · as_aux_lemma =>
                subst h0
                have d1 : decide (((0 : Nat) : Int) > 0) = false := rfl
                have HIns := Lib.hid (ins_at (cl := cl8 K) (y := ⟨r, x.s, x.e⟩) hatle HCP.out HAll.out (.inl rfl))
                clear HAll HCP
                go_wp2_with fail
                clear d1
                have hb9 : (ys.length + 1) * 24 ≤ 140737488355328 := by omega
                have HU0 := Lib.hid HU.out
                have HB0 := Lib.hid HB.out
                have HX0 := Lib.hid HX7.out
                have HV0 := Lib.hid HV.out
                have HY0 := Lib.hid HY.out
                clear HU HB HX7 HV HY
                go_upto_region 14 with fail
                refine regionZ _ _ _ _ wr _ ys.length _ 0 yb w.heap.size (ys.flatMap itCells) r x.s x.e rfl (by kernel_rfl) (by kernel_rfl) (by first | exact Nat.le_refl _ | decide | simp) rfl rfl rfl HY0.out HU0.out (its_one ys) hatle hb9 ?_
                intro V w' hown hb3
                have HX8 := Lib.hid (HX0.out.below hb3)
                have HV8 := Lib.hid (own_below HV0.out hb3)
                have HB8 := Lib.hid (HB0.out.trans (hb3.mono HB0.out.size))
                have hown2 : ItemsAt w' w.heap.size (V 12) (Nrm.ins (cl8 K) ys ⟨r, x.s, x.e⟩) := by
                  rw [HIns.out]
                  unfold ItemsAt
                  rw [← its_put ys 0 ⟨r, x.s, x.e⟩ hatle, show (ys.take 0 ++ (⟨r, x.s, x.e⟩ : It) :: ys.drop 0).length = ys.length + 1 by first | (simp; done) | (simp; omega)]
                  exact own_base hown HB0.out.size
                rw [HNx.out] at hown2
                have HU8 := Lib.hid hown2
                obtain ⟨v12, hv12⟩ : ∃ v12, v12 = V 12 := ⟨_, rfl⟩
                rw [← hv12] at HU8
                clear hown hown2 hb3 HX0 HV0 HU0 HB0 HY0 HIns HNx hb9
                simp [frS, stepS, Exit.then, ← hv12]
                clear hv12
                go_wp2_with fail
                go_roundw
                case rel => exact ⟨q + 1, by omega, by go_num, HU8, HX8, HV8, HB8⟩
                case measure => simp [intOf]; omega
              · have d1 : decide ((at_ : Int) > 0) = true := by rw [decide_eq_true_eq]; omega
                obtain ⟨z, hz⟩ : ∃ z, ys[at_ - 1]'(by omega) = z := ⟨_, rfl⟩
                obtain ⟨g5, cap5, hv5, _, _, hcap5, _⟩ := own_form HU.out (by omega)
                injection hv5 with hA5 _ hc5
                subst hA5 hc5
                have cz := own_cell HU.out _ _ (items_get ys (at_ - 1) (by omega)).1
                rw [hz] at cz
                have b1 : IntKind.i64.wrap ((at_ : Int) - 1) = ((at_ - 1 : Nat) : Int) := by rw [IntKind.wrap_i64]; omega
                have hlt1 : at_ - 1 < ys.length := by omega
                have Hz := Lib.hid hz
                have HCW := Lib.hid (HC.out wr HB.out z.r)
                have HB1 := Lib.hid b1
                clear hz
                go_wp2_with fail
                refine HCW.out.mono ?_
                rintro e w4 ⟨rfl, hb4⟩
                replace HY := Lib.hid (HY.out.below hb4)
                replace HU := Lib.hid (show ItemsAt w4 w.heap.size (.slice (some ⟨g5, 0, none⟩) ys.length c5) ys from own_below HU.out hb4)
                replace HX7 := Lib.hid (HX7.out.below hb4)
                replace HV := Lib.hid (own_below HV.out hb4)
                replace HB := Lib.hid (HB.out.trans (hb4.mono HB.out.size))
                clear hb4 HCW cz d1
                by_cases hgt : K r < K z.r
                · have d2 : decide (K z.r > K r) = true := by rw [decide_eq_true_eq]; exact hgt
                  have HAll2 := Lib.hid (show ∀ y ∈ ys.drop (at_ - 1), K r < cl8 K y from fun y hy => by
                    rw [List.drop_eq_getElem_cons hlt1, show at_ - 1 + 1 = at_ by omega, Hz.out] at hy
                    rcases List.mem_cons.1 hy with rfl | hy
                    · exact hgt
                    · exact HAll.out y hy)
                  clear HAll hgt
                  go_wp2_with fail
                  go_roundw
                  case rel => clear b1; exact ⟨at_ - 1, by omega, by first | rfl | go_num, HAll2, HY, HU, HX7, HV, HB⟩
                  case measure => clear b1; simp [intOf]; omega
                · as_aux_lemma =>
                  have d2 : decide (K z.r > K r) = false := by rw [decide_eq_false_iff_not]; omega
                  have HIns := Lib.hid (ins_at (cl := cl8 K) (y := ⟨r, x.s, x.e⟩) hatle HCP.out HAll.out (.inr ⟨z, by rw [List.getElem?_eq_getElem hlt1, Hz.out], by show K z.r ≤ K r; omega⟩))
                  clear HAll HCP Hz hgt b1 HB1 hcap5
                  go_wp2_with fail
                  clear d2
                  have hb9 : (ys.length + 1) * 24 ≤ 140737488355328 := by omega
                  have HU0 := Lib.hid HU.out
                  have HB0 := Lib.hid HB.out
                  have HX0 := Lib.hid HX7.out
                  have HV0 := Lib.hid HV.out
                  have HY0 := Lib.hid HY.out
                  clear HU HB HX7 HV HY
                  go_upto_region 14 with fail
                  refine regionZ _ _ _ _ w4 _ ys.length _ at_ yb w.heap.size (ys.flatMap itCells) r x.s x.e rfl (by kernel_rfl) (by kernel_rfl) (by first | exact Nat.le_refl _ | decide | simp) rfl rfl rfl HY0.out HU0.out (its_one ys) hatle hb9 ?_
                  intro V w' hown hb3
                  have HX8 := Lib.hid (HX0.out.below hb3)
                  have HV8 := Lib.hid (own_below HV0.out hb3)
                  have HB8 := Lib.hid (HB0.out.trans (hb3.mono HB0.out.size))
                  have hown2 : ItemsAt w' w.heap.size (V 12) (Nrm.ins (cl8 K) ys ⟨r, x.s, x.e⟩) := by
                    rw [HIns.out]
                    unfold ItemsAt
                    rw [← its_put ys at_ ⟨r, x.s, x.e⟩ hatle, show (ys.take at_ ++ (⟨r, x.s, x.e⟩ : It) :: ys.drop at_).length = ys.length + 1 by first | (simp; done) | (simp; omega)]
                    exact own_base hown HB0.out.size
                  rw [HNx.out] at hown2
                  have HU8 := Lib.hid hown2
                  obtain ⟨v12, hv12⟩ : ∃ v12, v12 = V 12 := ⟨_, rfl⟩
                  rw [← hv12] at HU8
                  clear hown hown2 hb3 HX0 HV0 HU0 HB0 HY0 HIns HNx hb9
                  simp [frS, stepS, Exit.then, ← hv12]
                  clear hv12
                  go_wp2_with fail
                  go_roundw
                  case rel => exact ⟨q + 1, by omega, by go_num, HU8, HX8, HV8, HB8⟩
                  case measure => simp [intOf]; omega
          · as_aux_lemma =>
            have d1 : decide (K r > 0) = false := by rw [decide_eq_false_iff_not]; exact hcp
            have HIns := Lib.hid (ins_last (cl := cl8 K) (l := ys) (y := ⟨r, x.s, x.e⟩) hcp)
            clear hcp
            go_wp2_with fail
            clear d1
            have hb9 : (ys.length + 1) * 24 ≤ 140737488355328 := by omega
            have HU0 := Lib.hid HU.out
            have HB0 := Lib.hid HB.out
            have HX0 := Lib.hid HX7.out
            have HV0 := Lib.hid HV.out
            have HY0 := Lib.hid HY.out
            clear HU HB HX7 HV HY
            go_upto_region 14 with fail
            refine regionZ _ _ _ _ w3 _ ys.length _ ys.length yb w.heap.size (ys.flatMap itCells) r x.s x.e rfl (by kernel_rfl) (by kernel_rfl) (by first | exact Nat.le_refl _ | decide | simp) rfl rfl rfl HY0.out HU0.out (its_one ys) (Nat.le_refl _) hb9 ?_
            intro V w' hown hb3
            have HX8 := Lib.hid (HX0.out.below hb3)
            have HV8 := Lib.hid (own_below HV0.out hb3)
            have HB8 := Lib.hid (HB0.out.trans (hb3.mono HB0.out.size))
            have hown2 : ItemsAt w' w.heap.size (V 12) (Nrm.ins (cl8 K) ys ⟨r, x.s, x.e⟩) := by
              rw [HIns.out]
              unfold ItemsAt
              rw [← its_put ys ys.length ⟨r, x.s, x.e⟩ (Nat.le_refl _), show (ys.take ys.length ++ (⟨r, x.s, x.e⟩ : It) :: ys.drop ys.length).length = ys.length + 1 by first | (simp; done) | (simp; omega)]
              exact own_base hown HB0.out.size
            rw [HNx.out] at hown2
            have HU8 := Lib.hid hown2
            obtain ⟨v12, hv12⟩ : ∃ v12, v12 = V 12 := ⟨_, rfl⟩
            rw [← hv12] at HU8
            clear hown hown2 hb3 HX0 HV0 HU0 HB0 HY0 HIns HNx hb9
            simp [frS, stepS, Exit.then, ← hv12]
            clear hv12
            go_wp2_with fail
            go_roundw
            case rel => exact ⟨q + 1, by omega, by go_num, HU8, HX8, HV8, HB8⟩
            case measure => simp [intOf]; omega
        · have hqe : q = full.length := by omega
          have HU2 := Lib.hid (show ItemsAt _ w.heap.size u5 (Nrm.ord (cl8 K) (itsG D (xs.take (k + 1)))) by
            have := HU.out
            rw [hqe, List.take_length] at this
            rw [HSN.out]
            exact this)
          clear HX7 HV HU
          go_wp2_with fail
          go_roundw
          case rel => exact ⟨k + 1, by omega, by go_num, HU2, HB⟩
          case measure => simp [intOf]; omega
    · as_aux_lemma =>
      have hke : k = xs.length := by omega
      subst hke
      have HU2 := Lib.hid (show ItemsAt wr w.heap.size u5 (Nrm.ord (cl8 K) (itsG D xs)) by
        have := HU.out
        rw [List.take_length] at this
        exact this)
      obtain ⟨A9, c9, rfl⟩ := own_slice HU2.out
      clear HU
      have HFin := Lib.hid (show ItemsSaid (Nrm.ord (cl8 K) (itsG D xs)) w (.returned _) wr from ⟨_, rfl, HU2.out, HB.out⟩)
      clear HU2 HB
      go_wp2_with fail
      go_ret
      exact HFin.out
end Go.Proofs.YthoegenipbohmaaGreatDoor

namespace Go.Proofs.YthoegenipbohmaaGreatDoor
open Go.RowKit Go.Sort Stb
set_option linter.unusedVariables false
set_option linter.unusedSimpArgs false
set_option maxRecDepth 100000 in
set_option maxHeartbeats 3200000 in
theorem runes08_walk {w : World} {b : Nat} {Φ : Files} (hI : ∀ W, Below w.heap.size w W → ∀ u xs, ItsAt W u xs → xs.length ≤ 100000 → Calls Tryz.prog 17 #[.pointer (some ⟨b, 0, none⟩), u] W (ItemsSaid (nfd Φ xs) W)) (htwo : short2B Φ.dec = true) {v : Value} {zs : List Int} (hz : ListAt w v zs) (hl : zs.length ≤ 100000) : Calls Tryz.prog 42 #[.pointer (some ⟨b, 0, none⟩), v] w (CloneSaid (runesL Φ zs) w) := by
  have HZ := Lib.hid hz
  obtain ⟨A1, c1, rfl, hn1, _⟩ := hz
  have HI := Lib.hid hI
  have HLn := Lib.hid (runes_len htwo zs)
  obtain ⟨R, hR⟩ : ∃ R, R = runesL Φ zs := ⟨_, rfl⟩
  rw [← hR] at HLn ⊢
  have HR := Lib.hid hR
  clear hI htwo hR
  go_enter Tryz.func42, Tryz.ntmps42
  go_wp2_with fail
  go_loopw [5, 13] (fun vo i wr => ∃ k : Nat, k ≤ zs.length ∧ i = .int .i64 k ∧ Hid (ItemsAt wr w.heap.size vo ((zs.take k).map zit)) ∧ Hid (Below w.heap.size w wr)) (fun _ i _ => zs.length - (intOf i).toNat)
  case atStart => exact ⟨0, by omega, rfl, World.ownsRow_nil _ _ _ _, Below.refl _ _⟩
  case round =>
    obtain ⟨k, hk, rfl, HO, HB⟩ := hrel
    by_cases hlt : k < zs.length
    · obtain ⟨A', c', e', _, hzz⟩ := HZ.out.below HB.out
      injection e' with e1 _ e3
      obtain ⟨ad, hA, hcell⟩ := hzz (by omega)
      rw [← e1] at hA
      subst hA
      have cx := hcell k _ (intz_get zs k hlt)
      obtain ⟨x, hx⟩ : ∃ x, x = zs.getD k 0 := ⟨_, rfl⟩
      rw [← hx] at cx
      have hxe : zs[k] = x := by rw [hx, List.getD_eq_getElem?_getD, List.getElem?_eq_getElem hlt]; rfl
      have HS := Lib.hid (show (zs.take k).map zit ++ [zit x] = (zs.take (k + 1)).map zit by rw [List.take_succ_eq_append_getElem hlt, List.map_append, hxe]; rfl)
      have hql : ((zs.take k).map zit).length = k := by rw [List.length_map, List.length_take]; omega
      obtain ⟨Ao, co, hvo⟩ := own_slice HO.out
      subst hvo
      have HO1 := Lib.hid (show wr.ownsRow w.heap.size 25 3 (.slice Ao ((zs.take k).map zit).length co) k (((zs.take k).map zit).flatMap itCells) by
        have := HO.out
        unfold ItemsAt at this
        rwa [hql] at this ⊢)
      rw [hql] at HO1 ⊢
      clear hzz hcell hx hxe e1 e3 hql HO
      go_wp2_with (at_builtin; refine wp_append_lit slItem rfl (.tmp 17) (.tmp 20) rfl w.heap.size (.slice Ao k co) k (((zs.take k).map zit).flatMap itCells) rfl (by exact HO1.out) #[.int .i64 x, .int .i64 0, .int .i64 0] rfl rfl (by simp [Value.oneCell']) (by omega) (by exact HB.out.size) ?_; intro v6 w6 hown6 hg6; have HO6 := Lib.hid hown6; have HB6 := Lib.hid (HB.out.grown hg6 HB.out.size (fun k hk => (own_lt HO1.out k hk).1)); clear hown6 hg6)
      go_roundw
      case rel => exact ⟨k + 1, by omega, by go_num, (show ItemsAt _ _ _ _ by
        unfold ItemsAt
        rw [show ((zs.take (k + 1)).map zit).length = k + 1 by rw [List.length_map, List.length_take]; omega, ← HS.out, ← items_snoc]
        exact HO6.out), HB6⟩
      case measure => simp [intOf]; omega
    · have hke : k = zs.length := by omega
      subst hke
      have HO1 := Lib.hid (show ItemsAt wr w.heap.size _ (zs.map zit) by have := HO.out; rwa [List.take_length] at this)
      clear HO
      have HIW := Lib.hid (HI.out wr HB.out _ _ (ItsAt.of_own HO1.out) (by rw [List.length_map]; exact hl))
      clear HO1 HI
      go_wp2_with fail
      refine HIW.out.mono ?_
      rintro e w2 ⟨v25, rfl, hv25, hb2⟩
      have HB2 := Lib.hid (HB.out.trans (hb2.mono HB.out.size))
      have hRe : R = (nfd Φ (zs.map zit)).map It.r := HR.out
      have HRe := Lib.hid hRe
      obtain ⟨A25, c25, rfl⟩ := own_slice hv25
      have HV := Lib.hid hv25
      generalize wr.heap.size = b25 at *
      generalize nfd Φ (zs.map zit) = ys at *
      have hly : ys.length = R.length := by rw [hRe, List.length_map]
      have hlr := HLn.out.1
      clear hv25 hb2 HIW HB hRe
      go_wp2_with fail
      go_loopw [8, 27] (fun vo i wx => ∃ q : Nat, q ≤ ys.length ∧ i = .int .i64 q ∧ Hid (IntsAt wx w.heap.size vo ((ys.take q).map It.r)) ∧ Hid (ItemsAt wx b25 (.slice A25 ys.length c25) ys) ∧ Hid (Below w.heap.size w wx)) (fun _ i _ => ys.length - (intOf i).toNat)
      case atStart => exact ⟨0, by omega, rfl, World.ownsRow_nil _ _ _ _, HV, HB2⟩
      case round =>
        clear HV HB2
        obtain ⟨q, hq, rfl, HO, HV, HB⟩ := hrel
        by_cases hqt : q < ys.length
        · obtain ⟨g, cap, hv, _⟩ := own_form HV.out (by omega)
          injection hv with hA hn0 hc0
          subst hA hc0
          clear hn0
          obtain ⟨y, hy⟩ : ∃ y, y = ys[q] := ⟨_, rfl⟩
          obtain ⟨p0, p1, p2⟩ := items_get ys q hqt
          rw [← hy] at p0 p1 p2
          have q0 := own_cell HV.out _ _ p0
          have q1 := own_cell HV.out _ _ p1
          have q2 := own_cell HV.out _ _ p2
          have HS := Lib.hid (show (ys.take q).map It.r ++ [y.r] = (ys.take (q + 1)).map It.r by rw [List.take_succ_eq_append_getElem hqt, List.map_append, ← hy]; rfl)
          have hql : ((ys.take q).map It.r).length = q := by rw [List.length_map, List.length_take]; omega
          obtain ⟨Ao, co, hvo⟩ := own_slice HO.out
          subst hvo
          have HO0 := Lib.hid (show wr.ownsRow w.heap.size 3 1 (.slice Ao q co) q (intz ((ys.take q).map It.r)) by
            have := HO.out
            unfold IntsAt at this
            rwa [hql] at this)
          rw [hql]
          obtain ⟨X, hX⟩ : ∃ X, X = Obj.cells #[Value.int IntKind.i64 y.r, Value.int IntKind.i64 y.s, Value.int IntKind.i64 y.e] 25 := ⟨_, rfl⟩
          have hbx := alloc_below wr X
          have HX7 := Lib.hid (show Blk (wr.alloc X) wr.heap.size 25 #[Value.int IntKind.i64 y.r, Value.int IntKind.i64 y.s, Value.int IntKind.i64 y.e] by rw [hX]; exact row_new _ _)
          have HO1 := Lib.hid (own_below HO0.out hbx)
          have HV1 := Lib.hid (show ItemsAt (wr.alloc X) b25 (.slice (some ⟨g, 0, none⟩) ys.length c25) ys from own_below HV.out hbx)
          have HB1 := Lib.hid (HB.out.trans (hbx.mono HB.out.size))
          rw [hX] at HX7 HO1 HV1 HB1
          clear p0 p1 p2 hy hql hbx HO HV HB HO0 hX X
          go_upto_region 11 with fail
          clear q0 q1 q2
          generalize wr.alloc _ = W1 at *
          generalize wr.heap.size = xb at *
          have q0 := HX7.out.cell 0
          go_wp2_with (at_builtin; refine wp_append_lit slIntN rfl (.tmp 31) (.tmp 34) rfl w.heap.size (.slice Ao q co) q (intz ((ys.take q).map It.r)) rfl (by exact HO1.out) #[.int .i64 y.r] rfl rfl (by simp [Value.oneCell']) (by omega) (by exact HB1.out.size) ?_; intro v6 w6 hown6 hg6; have HV6 := Lib.hid (HV1.out.kept hg6 (own_types HV1.out HO1.out (by decide))); have HO6 := Lib.hid hown6; have HB6 := Lib.hid (HB1.out.grown hg6 HB1.out.size (fun k hk => (own_lt HO1.out k hk).1)); clear hown6 hg6)
          go_roundw
          case rel => exact ⟨q + 1, by omega, by go_num, (show IntsAt _ _ _ _ by
            unfold IntsAt
            rw [show ((ys.take (q + 1)).map It.r).length = q + 1 by rw [List.length_map, List.length_take]; omega, ← HS.out, ← intz_snocN]
            exact HO6.out), HV6, HB6⟩
          case measure => simp [intOf]; omega
        · have hqe : q = ys.length := by omega
          subst hqe
          have hfin : (ys.take ys.length).map It.r = R := by rw [List.take_length, ← HRe.out]
          have HO1 := Lib.hid (show IntsAt wr w.heap.size _ R by have := HO.out; rwa [hfin] at this)
          clear HO hfin HV
          go_wp2_with fail
          go_ret
          exact ⟨_, rfl, HO1.out, HB.out⟩
theorem isn_walk {w : World} {m B : Nat} {Φ : Files} (hn : Nmd w m Φ) {v : Value} {zs : List Int} (hz : IntsAt w B v zs) (hwf : ∀ z ∈ zs, (Lit.int .i64 z).wf = true) (hl : zs.length ≤ 100000) : Calls Tryz.prog 26 #[.pointer (some ⟨m + 3, 0, none⟩), v] w fun e w' => e = .returned (.bool (runesL Φ zs == zs)) ∧ Below w.heap.size w w' := by
  obtain ⟨s, hse, hcat⟩ := hn.cat w (Below.refl _ _)
  have HC := Lib.hid hcat
  have HZ := Lib.hid hz
  have HR := Lib.hid (fun (W : World) (hb : Below w.heap.size w W) => runes_walk (hn.below hb) (ListAt.of_own (own_below hz hb)) hwf hl)
  obtain ⟨A1, c1, rfl⟩ := own_slice hz
  clear hn hcat hwf hz
  go_enter Tryz.func26, Tryz.ntmps26
  go_wp2_with fail
  refine HC.out.mono ?_
  rintro e w1 ⟨rfl, hb1⟩
  have HB1 := Lib.hid hb1
  clear hb1 HC
  go_wp2_with fail
  refine (HR.out _ HB1.out).mono ?_
  rintro e w2 ⟨v2, rfl, hv2, hb2⟩
  obtain ⟨A2, c2, rfl⟩ := own_slice hv2
  have HE := Lib.hid (equal_walk hv2 (own_below (own_below HZ.out HB1.out) hb2))
  have HB2 := Lib.hid (HB1.out.trans (hb2.mono HB1.out.size))
  clear hv2 hb2 HB1 HR HZ
  go_wp2_with fail
  refine HE.out.mono ?_
  rintro e w3 ⟨rfl, hb3⟩
  have HB3 := Lib.hid (HB2.out.trans (hb3.mono HB2.out.size))
  clear hb3 HE HB2
  go_wp2_with fail
  go_ret
  exact ⟨rfl, HB3.out⟩
end Go.Proofs.YthoegenipbohmaaGreatDoor

namespace Go.Proofs.YthoegenipbohmaaGreatDoor
open Go.RowKit Go.ChangeShapes Go.WideShapes Go.ChangeAt Go.Deep
set_option linter.unusedVariables false
set_option linter.unusedSimpArgs false
def ItsV (w : World) (v : Value) (xs : List It) : Prop := ItsAt w v xs ∧ (v = .slice none 0 0 ∨ ∃ ad n c, v = .slice (some ad) n c ∧ n ≤ c)
theorem ItsV.below {w w' : World} {v : Value} {xs : List It} (h : ItsV w v xs) (hb : Below w.heap.size w w') : ItsV w' v xs := ⟨h.1.below hb, h.2⟩
theorem add_noneI (a : Addr) : a.add 0 = a := by
  unfold Addr.add
  split <;> simp_all
set_option maxRecDepth 100000 in
theorem open_itemsV {H : Type} {enc : TypeId × Value → H} {w : World} {r : Reach} {base : Nat} {v : Value} {d : DataW H} {ps : List MemPlace} (hval : Value.okWide Tryz.prog w r base 22 v) (hd : DataW.Trod enc Tryz.prog w 0 (fun _ => true) true 22 v d ps) : ∃ xs, ItsV w v xs ∧ ∀ x ∈ xs, (Lit.int .i64 x.r).wf = true := by
  obtain ⟨A, n, c, rfl⟩ := open_list Tryz.underlying22 hval
  obtain ⟨m, hm⟩ := hd
  rcases DataW.trod_slice Tryz.underlying22 hm with ⟨h, _⟩ | ⟨a, len, cap, elems, rest, fuel, _, h, _, _, hl, hc, hlen, hel, _, _⟩
  · have e : Value.slice A n c = .slice none 0 0 := by simpa [Value.cells] using h
    injection e with e1 e2 e3
    subst e1 e2 e3
    exact ⟨[], ⟨⟨none, 0, rfl, by decide, fun h => absurd h (by decide)⟩, .inl rfl⟩, fun x hx => by cases hx⟩
  · have e : Value.slice A n c = .slice (some a) len cap := by simpa [Value.cells] using h
    injection e with e1 e2 e3
    subst e1 e2 e3
    unfold maxLen at hc
    have hc2 : Tryz.prog.cellsOf 25 = 3 := by kernel_rfl
    have hci : Tryz.prog.cellsOf 3 = 1 := by kernel_rfl
    have each : ∀ i, i < n → ∃ x : It, w.cell? (a.add (i * 3)) = some (.int .i64 x.r) ∧ w.cell? ((a.add (i * 3)).add 1) = some (.int .i64 x.s) ∧ w.cell? ((a.add (i * 3)).add 2) = some (.int .i64 x.e) ∧ (Lit.int .i64 x.r).wf = true := by
      intro i hi
      have h1 := hel i hi
      rw [List.getElem?_eq_getElem (by omega), Option.bind_eq_some_iff] at h1
      obtain ⟨cs, hcs, ht⟩ := h1
      obtain ⟨y0, y1, y2, n', _, hl2, t0, t1, t2⟩ := trod_struct3 Tryz.underlying25 ht
      obtain ⟨z0, e0, _, hw0⟩ := DataW.trod_int Tryz.underlying3 t0
      obtain ⟨z1, e1, _⟩ := DataW.trod_int Tryz.underlying3 t1
      obtain ⟨z2, e2, _⟩ := DataW.trod_int Tryz.underlying3 t2
      have f0 : (cs.drop 0).take 1 = [.int .i64 z0] := by rw [← hci]; exact e0
      have f1 : (cs.drop 1).take 1 = [.int .i64 z1] := by rw [← hci]; exact e1
      have f2 : (cs.drop 2).take 1 = [.int .i64 z2] := by rw [← hci]; exact e2
      rw [hc2] at hcs
      obtain ⟨_, hlc, hcell⟩ := World.cells?_some hcs
      match cs, hlc, f0, f1, f2, hcell with
      | [u0, u1, u2], _, f0, f1, f2, hcell =>
        have g0 : u0 = .int .i64 z0 := by simpa using f0
        have g1 : u1 = .int .i64 z1 := by simpa using f1
        have g2 : u2 = .int .i64 z2 := by simpa using f2
        have k0 := hcell 0 (by omega)
        have k1 := hcell 1 (by omega)
        have k2 := hcell 2 (by omega)
        rw [add_noneI] at k0
        exact ⟨⟨z0, z1, z2⟩, by rw [k0, g0]; rfl, by rw [k1, g1]; rfl, by rw [k2, g2]; rfl, hw0⟩
    obtain ⟨f, hf⟩ : ∃ f : Nat → It, ∀ i, i < n → w.cell? (a.add (i * 3)) = some (.int .i64 (f i).r) ∧ w.cell? ((a.add (i * 3)).add 1) = some (.int .i64 (f i).s) ∧ w.cell? ((a.add (i * 3)).add 2) = some (.int .i64 (f i).e) ∧ (Lit.int .i64 (f i).r).wf = true := by
      refine ⟨fun i => if h : i < n then Classical.choose (each i h) else ⟨0, 0, 0⟩, fun i hi => ?_⟩
      simp only [dif_pos hi]
      exact Classical.choose_spec (each i hi)
    have hrl : ((List.range n).map f).length = n := by simp
    refine ⟨(List.range n).map f, ⟨⟨some a, c, by rw [hrl], by rw [hrl]; omega, fun _ => ⟨a, rfl, fun j hj => ?_⟩⟩, .inr ⟨_, _, _, rfl, hl⟩⟩, fun x hx => ?_⟩
    · have hj' : j < n := by rw [hrl] at hj; exact hj
      obtain ⟨h1, h2, h3, _⟩ := hf j hj'
      simp only [List.getElem_map, List.getElem_range]
      exact ⟨h1, h2, h3⟩
    · obtain ⟨i, hi, rfl⟩ := List.mem_map.1 hx
      exact (hf i (List.mem_range.1 hi)).2.2.2
theorem ItsV.cut {w : World} {A : Option Addr} {n c k : Nat} {xs : List It} (h : ItsV w (.slice A n c) xs) (hk : k ≤ n) : ItsV w (.slice A k c) (xs.take k) := by
  obtain ⟨⟨A', c', e, hn, hz⟩, hf⟩ := h
  injection e with e1 e2 e3
  subst e1 e2 e3
  have ht : (xs.take k).length = k := by rw [List.length_take]; omega
  refine ⟨⟨A, c, by rw [ht], by omega, fun hp => ?_⟩, ?_⟩
  · obtain ⟨ad, hA, hc⟩ := hz (by omega)
    refine ⟨ad, hA, fun j hj => ?_⟩
    have hj2 : j < xs.length := by rw [ht] at hj; omega
    have := hc j hj2
    rw [List.getElem_take]
    exact this
  · rcases hf with h | ⟨ad, n', c', h, hnc⟩
    · injection h with h1 h2 h3
      left
      rw [h1, h3, show k = 0 by omega]
    · injection h with h1 h2 h3
      right
      exact ⟨ad, k, c, by rw [h1], by omega⟩
theorem its_cells {w : World} {ad : Addr} {xs : List It} (hc : ∀ j (h : j < xs.length), w.cell? (ad.add (j * 3)) = some (.int .i64 xs[j].r) ∧ w.cell? ((ad.add (j * 3)).add 1) = some (.int .i64 xs[j].s) ∧ w.cell? ((ad.add (j * 3)).add 2) = some (.int .i64 xs[j].e)) : ∀ j u, (xs.flatMap itCells)[j]? = some u → w.cell? (ad.add j) = some u := by
  intro j u hu
  have hl : (xs.flatMap itCells).length = xs.length * 3 := by
    clear hc hu
    induction xs with
    | nil => rfl
    | cons a t ih => rw [List.flatMap_cons, List.length_append, ih, it_len, List.length_cons]; omega
  have hj : j < xs.length * 3 := by have := (List.getElem?_eq_some_iff.1 hu).1; omega
  have hq : j / 3 < xs.length := by omega
  obtain ⟨h1, h2, h3⟩ := hc (j / 3) hq
  obtain ⟨g1, g2, g3⟩ := items_get xs (j / 3) hq
  rw [Addr.add_add] at h2 h3
  rcases (by omega : j = j / 3 * 3 ∨ j = j / 3 * 3 + 1 ∨ j = j / 3 * 3 + 2) with e | e | e
  · rw [e] at hu ⊢; rw [g1] at hu; rw [h1]; exact hu
  · rw [e] at hu ⊢; rw [g2] at hu; rw [h2]; exact hu
  · rw [e] at hu ⊢; rw [g3] at hu; rw [h3]; exact hu
theorem its_oneI (ys : List It) : ∀ u ∈ ys.flatMap itCells, u.oneCell' = true := by
  intro u hu
  obtain ⟨y, _, hu⟩ := List.mem_flatMap.1 hu
  simp [itCells] at hu
  rcases hu with rfl | rfl | rfl <;> rfl
theorem its_lenI (xs : List It) : (xs.flatMap itCells).length = xs.length * 3 := by
  induction xs with
  | nil => rfl
  | cons a t ih => rw [List.flatMap_cons, List.length_append, ih, it_len, List.length_cons]; omega
theorem own_zeroI (W : World) (e : TypeId) (B : Nat) (hB : B ≤ W.heap.size) : (W.alloc (.cells #[] e)).ownsRow B e 3 (.slice (some ⟨W.heap.size, 0, none⟩) 0 0) 0 [] :=
  ⟨rfl, .inr ⟨W.heap.size, 0, #[], rfl, hB, row_new _ _, Nat.le_refl _, Nat.zero_le _, rfl, rfl⟩⟩
set_option maxRecDepth 100000 in
theorem clonei_walk {w : World} {v : Value} {xs : List It} (h : ItsV w v xs) (hl : xs.length ≤ 1000000) : Calls Tryz.prog 13 #[v] w (ItemsSaid xs w) := by
  have q22 : ∀ (w : World) (a : Option Addr) (n c n' c' : Nat), (binOp .eql 22 (.slice a n c) (.slice none n' c')).run Tryz.prog w = .ok (.bool a.isNone) w := fun w a n c n' c' => Lib.run_eql_slice_nil w _ _ a n c n' c' Tryz.underlying22
  have hba := alloc_below w (Obj.cells #[] 25)
  obtain ⟨⟨A, c, rfl, hn, hz⟩, hf⟩ := h
  cases A with
  | none =>
    have h0 : xs = [] := by
      rcases hf with h | ⟨ad, n, c', h, _⟩
      · injection h with _ h2 _
        exact List.length_eq_zero_iff.1 h2
      · cases h
    subst h0
    clear hz hf hba
    go_enter Tryz.func13, Tryz.ntmps13
    go_wp2_with fail
    go_ret
    exact ⟨_, rfl, World.ownsRow_nil _ _ _ _, Below.refl _ _⟩
  | some ad =>
    have HC := Lib.hid (show ∀ ad', some ad = some ad' → ∀ j u, (xs.flatMap itCells)[j]? = some u → (w.alloc (Obj.cells #[] 25)).cell? (ad'.add j) = some u by
      rintro ad' e j u hu
      cases e
      have hp : 0 < xs.length := by
        have := (List.getElem?_eq_some_iff.1 hu).1
        rw [its_lenI] at this
        omega
      obtain ⟨ad2, h4, h5⟩ := hz hp
      cases h4
      exact cell_later hba (its_cells h5 j u hu))
    have HO := Lib.hid (own_zeroI w 25 w.heap.size (Nat.le_refl _))
    have HB := Lib.hid hba
    clear hf hba hz
    go_enter Tryz.func13, Tryz.ntmps13
    go_wp2_with (at_builtin; refine wp_append_more (w.alloc (Obj.cells #[] 25)) slItem rfl (.tmp 5) (.tmp 6) rfl w.heap.size _ 0 [] rfl (by exact HO.out) (some ad) xs.length c (xs.flatMap itCells) rfl (by intro h; cases h) (its_lenI xs) HC.out (its_oneI xs) (by omega) HB.out.size ?_; intro v3 w3 hown hg; have HB3 := Lib.hid (HB.out.grown hg HB.out.size (fun k hk => by have e : w.heap.size = k := Option.some.inj (show some w.heap.size = some k from hk); omega)); have HO3 := Lib.hid hown; clear hown hg)
    go_ret
    refine ⟨_, rfl, ?_, HB3.out⟩
    have := HO3.out
    rw [Nat.zero_add, List.nil_append] at this
    exact this
set_option maxRecDepth 100000 in
theorem equali_walk {w : World} {v u : Value} {xs : List It} (h : ItsAt w v xs) (h' : ItsAt w u xs) : Calls Tryz.prog 14 #[v, u] w fun e w' => e = .returned (.bool true) ∧ Below w.heap.size w w' := by
  obtain ⟨A, c, rfl, hn, hz⟩ := h
  obtain ⟨A', c', rfl, _, hz'⟩ := h'
  have HZ := Lib.hid hz
  have HZ' := Lib.hid hz'
  have g0 : (((xs.length : Nat) : Int) != ((xs.length : Nat) : Int)) = false := by simp
  clear hz hz'
  go_enter Tryz.func14, Tryz.ntmps14
  go_wp2_with fail
  go_loopw [13] (fun i wr => ∃ k : Nat, k ≤ xs.length ∧ i = .int .i64 k ∧ Hid (Below w.heap.size w wr)) (fun i _ => xs.length - (intOf i).toNat)
  case atStart => exact ⟨0, by omega, rfl, Below.refl _ _⟩
  case round =>
    obtain ⟨k, hk, rfl, HB⟩ := hrel
    by_cases hlt : k < xs.length
    · obtain ⟨ad, rfl, had⟩ := HZ.out (by omega)
      obtain ⟨ad', rfl, had'⟩ := HZ'.out (by omega)
      obtain ⟨a0, a1, a2⟩ := had k hlt
      obtain ⟨b0, b1, b2⟩ := had' k hlt
      obtain ⟨x, hx⟩ : ∃ x, x = xs[k] := ⟨_, rfl⟩
      rw [← hx] at a0 a1 a2 b0 b1 b2
      have c0 : wr.cell? (ad.add (k * 3)) = some (.int .i64 x.r) := cell_later HB.out a0
      have c1 : wr.cell? ⟨(ad.add (k * 3)).block, (ad.add (k * 3)).off + 1, none⟩ = some (.int .i64 x.s) := cell_later HB.out a1
      have c2 : wr.cell? ⟨(ad.add (k * 3)).block, (ad.add (k * 3)).off + 2, none⟩ = some (.int .i64 x.e) := cell_later HB.out a2
      have e0 : wr.cell? (ad'.add (k * 3)) = some (.int .i64 x.r) := cell_later HB.out b0
      have e1 : wr.cell? ⟨(ad'.add (k * 3)).block, (ad'.add (k * 3)).off + 1, none⟩ = some (.int .i64 x.s) := cell_later HB.out b1
      have e2 : wr.cell? ⟨(ad'.add (k * 3)).block, (ad'.add (k * 3)).off + 2, none⟩ = some (.int .i64 x.e) := cell_later HB.out b2
      clear had had' hx a0 a1 a2 b0 b1 b2
      go_wp2_with fail
      go_quiet (fail)
      simp only [Exit.then]
      go_wp2_with fail
      refine ⟨⟨k + 1, by omega, by go_num, HB.out.trans ((below_drewN _ _).mono HB.out.size)⟩, ?_⟩
      simp [intOf]
      omega
    · have hkl : k = xs.length := by omega
      subst hkl
      go_wp2_with fail
      go_ret
      exact ⟨rfl, HB.out⟩
end Go.Proofs.YthoegenipbohmaaGreatDoor
