/- rubricatorref02: record. The text is printed by wip/tools/mkref2d.py. -/
import Derived.Test.YtpmbebofinlmmaaGreatDoorRef2C
import Derived.Deep.DeepCutAuto
import Derived.Deep.CutBlock
namespace Go.Proofs.YtpmbebofinlmmaaGreatDoor
open Go.RowKit
set_option linter.unusedVariables false
set_option linter.unusedSimpArgs false

def RecRef (fs : List Sp.Str) (w : World) (e : Ending) (w' : World) : Prop := Below w.heap.size w w' ∧
  match RSp.record fs with
  | none => e = .returned (.tuple #[.agg #[.int .i64 0, .int .i64 0, .slice none 0 0], .bool false])
  | some r => ∃ v, e = .returned (.tuple #[.agg #[.int .i64 r.lo, .int .i64 r.hi, v], .bool true]) ∧ w'.ownsRow w.heap.size 9 1 v r.fields.length (strVs r.fields)
theorem hexr (l : Sp.Str) (w : World) : Calls Tryz.prog 110 #[.string ⟨l.toArray⟩] w fun e w' => e = .returned (.tuple #[.int .i64 ((Sp.hex l).getD 0 : Nat), .bool (Sp.hex l).isSome]) ∧ w = w' := hex_ref ⟨l.toArray⟩ w
theorem hexr_some {l : Sp.Str} {n : Nat} (h : Sp.hex l = some n) (w : World) : Calls Tryz.prog 110 #[.string ⟨l.toArray⟩] w fun e w' => e = .returned (.tuple #[.int .i64 n, .bool true]) ∧ w = w' := by
  have := hexr l w
  rw [h] at this
  exact this
theorem hexr_none {l : Sp.Str} (h : Sp.hex l = none) (w : World) : Calls Tryz.prog 110 #[.string ⟨l.toArray⟩] w fun e w' => e = .returned (.tuple #[.int .i64 0, .bool false]) ∧ w = w' := by
  have := hexr l w
  rw [h] at this
  exact this
theorem dots_hit {pre l : Sp.Str} : RSp.dots pre (46 :: 46 :: l) = some (pre, l) := by unfold RSp.dots; rw [if_pos ⟨rfl, rfl⟩]
theorem dots_miss {pre l : Sp.Str} {a b : UInt8} (h : ¬ (a = 46 ∧ b = 46)) : RSp.dots pre (a :: b :: l) = RSp.dots (pre ++ [a]) (b :: l) := by rw [RSp.dots, if_neg h]
theorem dots_end {pre l : Sp.Str} (h : l.length < 2) : RSp.dots pre l = none := by
  match l, h with
  | [], _ => rfl
  | [_], _ => rfl
set_option maxRecDepth 100000 in
theorem record_ref_short (a : Option Addr) (n cap : Nat) (hn : n < 2) (w : World) :
    Calls Tryz.prog 141 #[.slice a n cap] w fun e w' => e = .returned (.tuple #[.agg #[.int .i64 0, .int .i64 0, .slice none 0 0], .bool false]) ∧ Below w.heap.size w w' := by
  go_enter Tryz.func141, Tryz.ntmps141
  go_wp2_with fail
  refine bodyPost_ret (v := .tuple #[.agg #[.int .i64 0, .int .i64 0, .slice none 0 0], .bool false]) (by simp [results, Tryz.results141, go_sem]) rfl ⟨rfl, ?_⟩
  have hb := alloc_below w (Obj.cells #[Value.int IntKind.i64 0, Value.int IntKind.i64 0, Value.slice none 0 0] 81)
  first
    | exact hb
    | exact ((hb.setCell (by simp) _).setCell (by simp) _).setCell (by simp) _
set_option maxRecDepth 100000 in
set_option maxHeartbeats 6400000 in
theorem record_ref_long (g n cap : Nat) (f0 : Sp.Str) (rest : List Sp.Str) (base : Nat) (w : World) (hn : Hid (n = rest.length + 1)) (hn2 : 2 ≤ n) (hsmall : n * 16 ≤ 140737488355328)
    (hown : w.ownsRow base 9 1 (.slice (some ⟨g, 0, none⟩) n cap) n (strVs (f0 :: rest)))
    (hl0 : f0.length < 1000000) : Calls Tryz.prog 141 #[.slice (some ⟨g, 0, none⟩) n cap] w (RecRef (f0 :: rest) w) := by
  have hc0 : w.cell? ⟨g, 0, none⟩ = some (.string ⟨f0.toArray⟩) := hown.cellAt 0 (by omega)
  have hgl : g < w.heap.size := block_lt_of_cell hc0
  have hnc : n ≤ cap := by
    obtain ⟨g', cap', he, _, _, h1, h2⟩ := own_form hown (by omega)
    injection he with _ _ h3
    omega
  have hcm : cap ≤ 9223372036854775807 := by
    obtain ⟨g', cap', he, _, _, h1, h2⟩ := own_form hown (by omega)
    injection he with _ _ h3
    unfold maxLen at h2
    omega
  have hB1 := alloc_below w (Obj.cells #[Value.int IntKind.i64 0, Value.int IntKind.i64 0, Value.slice none 0 0] 81)
  have hrow := row_new w (Obj.cells #[Value.int IntKind.i64 0, Value.int IntKind.i64 0, Value.slice none 0 0] 81)
  have hsz1 := size_new w (Obj.cells #[Value.int IntKind.i64 0, Value.int IntKind.i64 0, Value.slice none 0 0] 81)
  have hown1 := own_below hown hB1
  have hc1 := cell_later hB1 hc0
  obtain ⟨W1, hW1⟩ : ∃ W1, W1 = w.alloc (Obj.cells #[Value.int IntKind.i64 0, Value.int IntKind.i64 0, Value.slice none 0 0] 81) := ⟨_, rfl⟩
  rw [← hW1] at hB1 hrow hsz1 hown1 hc1
  obtain ⟨S, hS⟩ : ∃ S : ByteArray, S = ⟨f0.toArray⟩ := ⟨_, rfl⟩
  rw [← hS] at hc1 hc0
  have hszS : (S.size : Int) = (f0.length : Int) := by rw [hS, toB_size]
  have hszN : S.size = f0.length := by rw [hS, toB_size]
  have HS := Lib.hid hS
  have HC1 := Lib.hid hc1
  have HB1 := Lib.hid hB1
  have Hrow := Lib.hid hrow
  have Hsz1 := Lib.hid hsz1
  have Hown1 := Lib.hid hown1
  have hbad : RSp.record (f0 :: rest) = none → ∀ w4 : World, Below w.heap.size w w4 → RecRef (f0 :: rest) w (.returned (.tuple #[.agg #[.int .i64 0, .int .i64 0, .slice none 0 0], .bool false])) w4 := fun h w4 hb => by
    refine ⟨hb, ?_⟩
    rw [h]
  have Hbad := Lib.hid hbad
  have Hgl := Lib.hid hgl
  clear hbad hown hS hc1 hB1 hrow hsz1 hown1 hgl
  go_enter Tryz.func141, Tryz.ntmps141
  go_upto_region 3 with fail
  rw [← hW1]
  clear hW1 hc0
  go_cut [4, 5] (fun c d wx => c = .string S ∧ d = .string S ∧ Below W1.heap.size W1 wx)
  case first =>
    have hc := HC1.out
    go_quiet (fail)
    simp only [Exit.then]
    go_wp2_with fail
    go_meet
    case rel => exact ⟨rfl, rfl, below_drewN _ _⟩
  case rest =>
  obtain ⟨rfl, rfl, hb_⟩ := hcut
  have HBr := Lib.hid hb_
  clear hb_
  go_upto_block 0 with fail
  go_cut [4, 5] (fun c d wx => ∃ lo hi : Sp.Str, c = .string ⟨lo.toArray⟩ ∧ d = .string ⟨hi.toArray⟩ ∧ RSp.ends f0 = (lo, hi) ∧ Below W1.heap.size W1 wx)
  case first =>
    go_wp2_with fail
    go_loopw [4, 5, 6] (fun c d i wr => ∃ k : Nat, k ≤ f0.length ∧ c = .string S ∧ d = .string S ∧ i = .int .i64 k ∧ Hid (RSp.dots [] f0 = RSp.dots (f0.take k) (f0.drop k)) ∧ Hid (Below W1.heap.size W1 wr)) (fun _ _ i _ => f0.length - (intOf i).toNat)
    case atStart => exact ⟨0, by omega, rfl, rfl, rfl, rfl, HBr⟩
    case round =>
      obtain ⟨k, hk, rfl, rfl, rfl, HI, HB⟩ := hrel
      have hc := cell_later HB.out HC1.out
      have a1 : IntKind.i64.wrap ((k : Int) + 1) = k + 1 := by rw [IntKind.wrap_i64]; omega
      have a2 : IntKind.i64.wrap ((k : Int) + 2) = k + 2 := by rw [IntKind.wrap_i64]; omega
      by_cases hlt : k + 1 < f0.length
      · have d1 := decide_eq_true (show (k : Int) + 1 < (f0.length : Int) by omega)
        have hd : f0.drop k = f0[k] :: f0[k + 1] :: f0.drop (k + 2) := by rw [List.drop_eq_getElem_cons (by omega), List.drop_eq_getElem_cons hlt]
        have hx : (⟨f0.toArray⟩ : ByteArray).extract k (k + 2) = ⟨#[f0[k], f0[k + 1]]⟩ := by
          rw [toB_ext]
          have : (f0.take (k + 2)).drop k = [f0[k], f0[k + 1]] := by
            rw [List.take_succ_eq_append_getElem hlt, List.take_succ_eq_append_getElem (by omega), List.append_assoc, List.drop_append_of_le_length (by rw [List.length_take]; omega), List.drop_eq_nil_of_le (by rw [List.length_take]; omega)]
            rfl
          rw [this]
        rw [← HS.out] at hx
        have hmore : ¬ (f0[k] = 46 ∧ f0[k + 1] = 46) → RSp.dots [] f0 = RSp.dots (f0.take (k + 1)) (f0.drop (k + 1)) := fun h => by
          rw [HI.out, hd, dots_miss h, List.take_succ_eq_append_getElem (by omega), List.drop_eq_getElem_cons hlt]
        have hhit : f0[k] = 46 ∧ f0[k + 1] = 46 → RSp.ends f0 = (f0.take k, f0.drop (k + 2)) := fun h => by
          unfold RSp.ends
          rw [HI.out, hd, h.1, h.2, dots_hit]
          rfl
        have Hmore := Lib.hid hmore
        have Hhit := Lib.hid hhit
        have h2 : (k : Int) + 2 ≤ (f0.length : Int) := by omega
        have hxt : (⟨#[f0[k], f0[k + 1]]⟩ : ByteArray).toList = [f0[k], f0[k + 1]] := toBl' [f0[k], f0[k + 1]]
        clear HI hd hmore hhit
        generalize f0[k] = x at *
        generalize f0[k + 1] = y at *
        by_cases hxy : x = 46 ∧ y = 46
        · have He := Lib.hid (Hhit.out hxy)
          have c1 : (S.extract k (k + 2)).toList = [46, 46] := by rw [hx, hxt, hxy.1, hxy.2]
          have hx1 : S.extract 0 k = ⟨(f0.take k).toArray⟩ := by rw [HS.out, toB_ext, List.drop_zero]
          have hx2 : S.extract (k + 2) S.size = ⟨(f0.drop (k + 2)).toArray⟩ := by rw [HS.out, toB_ext, toB_size, List.take_length]
          have hx3 : S.extract (k + 2) f0.length = ⟨(f0.drop (k + 2)).toArray⟩ := by rw [← hszN]; exact hx2
          clear Hhit Hmore hxy hx hxt
          generalize f0.take k = lo at *
          generalize f0.drop (k + 2) = hi at *
          go_wp2_with fail
          go_quiet (fail)
          simp only [Exit.then]
          go_wp2_with fail
          go_meet
          case rel => exact ⟨lo, hi, by first | rfl | (congr 1), by first | rfl | (congr 1), He.out, HB.out.trans ((below_drewN _ _).mono HB.out.size)⟩
        · have He := Lib.hid (Hmore.out hxy)
          have c1 : ((S.extract k (k + 2)).toList == [46, 46]) = false := by
            rw [hx, hxt, beq_eq_false_iff_ne]
            intro e
            injection e with e1 e2
            injection e2 with e2 _
            exact hxy ⟨e1, e2⟩
          clear Hhit Hmore hxy hx hxt
          go_wp2_with fail
          go_roundw
          case rel => exact ⟨k + 1, by omega, rfl, rfl, by go_num, He, HB⟩
          case measure => simp [intOf]; omega
      · have d1 := decide_eq_false (show ¬ (k : Int) + 1 < (f0.length : Int) by omega)
        have He := Lib.hid (show RSp.ends f0 = (f0, f0) by
          unfold RSp.ends
          rw [HI.out, dots_end (by rw [List.length_drop]; omega)]
          rfl)
        clear HI
        go_wp2_with fail
        go_meet
        case rel => exact ⟨f0, f0, by rw [HS.out], by rw [HS.out], He.out, HB.out⟩
  case rest =>
  obtain ⟨lo, hi, rfl, rfl, he, hb_⟩ := hcut
  replace HBr := Lib.hid hb_
  have He := Lib.hid he
  clear hb_ he
  have hrow := (HBr.out.block w.heap.size (by rw [Hsz1.out]; omega)).trans Hrow.out
  have r0 := (cells_of_row hrow).1 0
  have r1 := (cells_of_row hrow).1 1
  have r2 := (cells_of_row hrow).1 2
  have q0 := (cells_of_row hrow).2 0
  have q1 := (cells_of_row hrow).2 1
  have q2 := (cells_of_row hrow).2 2
  simp at r0 r1 r2
  have hb' : Below w.heap.size w wc := HB1.out.trans (HBr.out.mono HB1.out.size)
  have hrec : ∀ f1 rest', rest = f1 :: rest' → RSp.record (f0 :: rest) = (match Sp.hex lo, Sp.hex hi with
    | some a, some b => if b < a then none else some ⟨a, b, rest⟩
    | _, _ => none) := fun f1 rest' h => by
    subst h
    unfold RSp.record
    simp only [He.out]
    cases Sp.hex lo with
    | none => rfl
    | some a =>
      cases Sp.hex hi with
      | none => rfl
      | some b => rfl
  obtain ⟨f1, rest', hrr⟩ : ∃ f1 rest', rest = f1 :: rest' := by
    cases rest with
    | nil => have := hn.out; simp at this; omega
    | cons f1 rest' => exact ⟨f1, rest', rfl⟩
  replace hrec := hrec f1 rest' hrr
  have Hrec := Lib.hid hrec
  have hown3 := own_below Hown1.out HBr.out
  have Hb' := Lib.hid hb'
  have Hrowc := Lib.hid hrow
  have Hown3 := Lib.hid hown3
  have hne3 : w.heap.size < wc.heap.size := by have := HBr.out.size; rw [Hsz1.out] at this; omega
  clear hrec hrr hrow hb' hown3 He Hown1 Hrow HS HC1
  cases hA : Sp.hex lo with
  | none =>
    have HRec := Lib.hid (show RSp.record (f0 :: rest) = none by rw [Hrec.out, hA])
    have HA := Lib.hid hA
    clear hA
    go_wp2_with fail
    refine (hexr_none HA.out _).mono ?_
    rintro e w2 ⟨rfl, rfl⟩
    go_wp2_with fail
    refine (hexr hi _).mono ?_
    rintro e w3 ⟨rfl, rfl⟩
    go_wp2_with fail
    refine bodyPost_ret (v := .tuple #[.agg #[.int .i64 0, .int .i64 0, .slice none 0 0], .bool false]) (by simp [results, Tryz.results141, go_sem, r0, r1, r2]) rfl (Hbad.out HRec.out _ ?_)
    exact ((Hb'.out.setCell (by simp) _).setCell (by simp) _).setCell (by simp) _
  | some a =>
    have HA := Lib.hid hA
    have hale := hex_le hA
    clear hA
    go_wp2_with fail
    refine (hexr_some HA.out _).mono ?_
    rintro e w2 ⟨rfl, rfl⟩
    cases hB : Sp.hex hi with
    | none =>
      have HRec := Lib.hid (show RSp.record (f0 :: rest) = none by rw [Hrec.out, HA.out, hB])
      have HB := Lib.hid hB
      clear hB
      go_wp2_with fail
      refine (hexr_none HB.out _).mono ?_
      rintro e w3 ⟨rfl, rfl⟩
      go_wp2_with fail
      refine bodyPost_ret (v := .tuple #[.agg #[.int .i64 0, .int .i64 0, .slice none 0 0], .bool false]) (by simp [results, Tryz.results141, go_sem, r0, r1, r2]) rfl (Hbad.out HRec.out _ ?_)
      exact ((Hb'.out.setCell (by simp) _).setCell (by simp) _).setCell (by simp) _
    | some b =>
      have HB := Lib.hid hB
      have hble := hex_le hB
      clear hB
      go_wp2_with fail
      refine (hexr_some HB.out _).mono ?_
      rintro e w3 ⟨rfl, rfl⟩
      by_cases hba : b < a
      · have HRec := Lib.hid (show RSp.record (f0 :: rest) = none by rw [Hrec.out, HA.out, HB.out]; simp only [if_pos hba])
        have d1 := decide_eq_true hba
        clear hba
        go_wp2_with fail
        refine bodyPost_ret (v := .tuple #[.agg #[.int .i64 0, .int .i64 0, .slice none 0 0], .bool false]) (by simp [results, Tryz.results141, go_sem, r0, r1, r2]) rfl (Hbad.out HRec.out _ ?_)
        exact ((Hb'.out.setCell (by simp) _).setCell (by simp) _).setCell (by simp) _
      · have hRec : RSp.record (f0 :: rest) = some ⟨a, b, rest⟩ := by rw [Hrec.out, HA.out, HB.out]; simp only [if_neg hba]
        have d1 := decide_eq_false hba
        have hlit : (wc.alloc (Obj.cells #[] 9)).ownsRow wc.heap.size 9 1 (.slice (some ⟨wc.heap.size, 0, none⟩) 0 0) 0 [] := World.ownsRow_lit (size := 1) wc #[] 0 (Nat.le_refl _) (by decide) rfl
        have hnews : ∀ j u, (strVs rest)[j]? = some u → (wc.alloc (Obj.cells #[] 9)).cell? ((⟨g, 1, none⟩ : Addr).add j) = some u := fun j u hu => by
          rw [add_plain]; exact own_cell (Hown3.out.alloc (Obj.cells #[] 9)) (1 + j) u (by rw [Nat.add_comm]; exact hu)
        have hlen : (strVs rest).length = (n - 1) * 1 := by have := hn.out; unfold strVs; rw [List.length_map]; omega
        have hone : ∀ u ∈ strVs rest, u.oneCell' = true := fun u hu => by obtain ⟨x, _, rfl⟩ := List.mem_map.1 hu; rfl
        have hgood : ∀ v w4, w4.ownsRow w.heap.size 9 1 v (0 + (n - 1)) ([] ++ strVs rest) → Below w.heap.size w w4 → RecRef (f0 :: rest) w (.returned (.tuple #[.agg #[.int .i64 a, .int .i64 b, v], .bool true])) w4 := fun v w4 h1 h2 => by
          refine ⟨h2, ?_⟩
          rw [hRec]
          refine ⟨v, rfl, ?_⟩
          have e : 0 + (n - 1) = rest.length := by have := hn.out; omega
          rw [e] at h1
          exact h1
        have hzb : Below w.heap.size w (wc.alloc (Obj.cells #[] 9)) := Hb'.out.alloc Hb'.out.size _
        have Hlit := Lib.hid hlit
        have Hnews := Lib.hid hnews
        have Hlen := Lib.hid hlen
        have Hone := Lib.hid hone
        have Hgood := Lib.hid hgood
        have hcapb : (0 + (n - 1)) * 16 ≤ 140737488355328 := by have := hsmall; omega
        have Hrowz := Lib.hid (alloc_row Hrowc.out (Obj.cells #[] 9))
        clear hba Hbad hlit hnews hlen hone hgood hRec r0 r1 r2 q0 q1 q2
        go_wp2_with (at_builtin; refine wp_append _ slStr rfl (.tmp 73) (.tmp 75) rfl wc.heap.size (.slice (some ⟨wc.heap.size, 0, none⟩) 0 0) 0 [] rfl (by exact Hlit.out) ⟨g, 1, none⟩ (n - 1) (cap - 1) (strVs rest) rfl Hlen.out (by exact Hnews.out) Hone.out hcapb (by rw [size_new]; omega) ?_; intro v4 w4 hown4 hg4 _ hat4; have hrow4 := grown_row hg4 Hrowz.out (by simp [Value.ownBlock]; omega); have hb4 : Below w.heap.size w w4 := hzb.grown hg4 hzb.size (by intro k hk; simp [Value.ownBlock] at hk; omega); have r0 := (cells_of_row hrow4).1 0; have r1 := (cells_of_row hrow4).1 1; have r2 := (cells_of_row hrow4).1 2; have q0 := (cells_of_row hrow4).2 0; have q1 := (cells_of_row hrow4).2 1; have q2 := (cells_of_row hrow4).2 2; simp at r0 r1 r2; clear hg4 hat4 hrow4; obtain ⟨A4, c4, rfl⟩ := own_slice hown4)
        refine bodyPost_ret (v := .tuple #[.agg #[.int .i64 a, .int .i64 b, .slice A4 (0 + (n - 1)) c4], .bool true]) (by simp [results, Tryz.results141, go_sem, r0, r1, r2]) rfl (Hgood.out _ _ ?_ ?_)
        · exact own_base (ownsRow_setCell_below (ownsRow_setCell_below (ownsRow_setCell_below hown4 hne3 _) hne3 _) hne3 _) (by omega)
        · exact ((hb4.setCell (by simp) _).setCell (by simp) _).setCell (by simp) _
theorem record_ref (fs : List Sp.Str) (v : Value) (base : Nat) (w : World) (hown : w.ownsRow base 9 1 v fs.length (strVs fs)) (hsmall : fs.length * 16 ≤ 140737488355328) (hl : ∀ f ∈ fs, f.length < 1000000) :
    Calls Tryz.prog 141 #[v] w (RecRef fs w) := by
  match fs, hown, hsmall, hl with
  | [], hown, _, _ =>
    obtain ⟨A, c, rfl⟩ := own_slice hown
    exact (record_ref_short A 0 c (by omega) w).mono fun e w' h => ⟨h.2, h.1⟩
  | [f0], hown, _, _ =>
    obtain ⟨A, c, rfl⟩ := own_slice hown
    exact (record_ref_short A 1 c (by omega) w).mono fun e w' h => ⟨h.2, h.1⟩
  | f0 :: f1 :: rest, hown, hsmall, hl =>
    obtain ⟨g, cap, rfl, _⟩ := own_form hown (by simp)
    exact record_ref_long g _ cap f0 (f1 :: rest) base w (Lib.hid rfl) (by simp) hsmall hown (hl f0 List.mem_cons_self)
end Go.Proofs.YtpmbebofinlmmaaGreatDoor
