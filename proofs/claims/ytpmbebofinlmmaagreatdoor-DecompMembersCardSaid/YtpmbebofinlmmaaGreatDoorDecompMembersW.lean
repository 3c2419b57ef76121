/- rubricatorref07.some, Members, Singles; rubricatorlaw07.DecompMembers answers true. -/
import Derived.Test.YtpmbebofinlmmaaGreatDoorMemb
import Derived.Test.YtpmbebofinlmmaaGreatDoorRow
import Derived.Test.YtpmbebofinlmmaaGreatDoorRow2
import Derived.Test.YtpmbebofinlmmaaGreatDoorOpenW
namespace Go.Proofs.YtpmbebofinlmmaaGreatDoor
open Go.RowKit
set_option linter.unusedVariables false
set_option linter.unusedSimpArgs false
def isB7 (b : Bool) (l : List Int) : Bool := manyB l == b
set_option maxRecDepth 100000 in
set_option maxHeartbeats 3200000 in
theorem some07_walk {w : World} {B b : Nat} {Φ : Files} (hok : FilesOk Φ) (hr : RefAt w B b Φ) (hfu : ∀ (W : World) (r : Int), RefAt W B b Φ → Calls Tryz.prog 93 #[.pointer (some ⟨b, 0, none⟩), .int .i64 r] W (CloneSaid (dall (partsOf Φ.dec) r) W)) (sev : Bool) :
    Calls Tryz.prog 85 #[.pointer (some ⟨b, 0, none⟩), .bool sev] w (CloneSaid (picks Φ (isB7 sev) Φ.dec) w) := by
  have HRef := Lib.hid hr
  have HF := Lib.hid hfu
  obtain ⟨v0, v1, v2, v3, v4, v5, v6, v7, v8, f0, f1, f2, f3, f4, f5, f6, U7, U8, h0, h1, h2, h3, h4, h5, h6, h7, h8, h9⟩ := hr.all
  obtain ⟨A0, c0, rfl⟩ := own_slice h6.row
  have z5 : w.cell? ⟨b, 5, none⟩ = some (.slice A0 Φ.dec.length c0) := h0.cell 5
  have HR := Lib.hid h6
  have Hok := Lib.hid hok
  have hdl := hok.decl.le
  clear h0 h1 h2 h3 h4 h5 h6 h7 h8 h9 hr hfu hok
  go_enter Tryz.func85, Tryz.ntmps85
  go_wp2_with fail
  go_loopw [5, 14] (fun o i wr => ∃ (k : Nat) (out : List Int), k ≤ Φ.dec.length ∧ i = .int .i64 k ∧ Hid (out = picks Φ (isB7 sev) (Φ.dec.take k)) ∧ out.length ≤ 1114112 * k ∧ Hid (IntsAt wr w.heap.size o out) ∧ Hid (Below w.heap.size w wr)) (fun _ i _ => Φ.dec.length - (intOf i).toNat)
  case atStart => exact ⟨0, [], by omega, rfl, rfl, by simp, World.ownsRow_nil _ _ _ _, Below.refl _ _⟩
  case round =>
    clear z5
    obtain ⟨k, out, hk, rfl, HO, hol, HU, HB⟩ := hrel
    by_cases hlt : k < Φ.dec.length
    · have hRr := HR.out.below HB.out
      obtain ⟨g0, cap0, hv, _, _, _, _⟩ := own_form hRr.row (by omega)
      injection hv with hA hn0 hc0
      subst hA hc0
      clear hn0
      obtain ⟨u, hu⟩ : ∃ u, u = f5[k]'(by rw [← HR.out.len]; exact hlt) := ⟨_, rfl⟩
      obtain ⟨x, hx⟩ : ∃ x, x = Φ.dec[k] := ⟨_, rfl⟩
      obtain ⟨e0, e1, e2⟩ := recCells_get Φ.dec f5 k HR.out.len hlt
      rw [← hx] at e0 e1
      rw [← hu] at e2
      have q0 := own_cell hRr.row _ _ e0
      have q1 := own_cell hRr.row _ _ e1
      have q2 := own_cell hRr.row _ _ e2
      have hfld := hRr.fld k x u (by rw [hx]; exact List.getElem?_eq_getElem hlt) (by rw [hu]; exact List.getElem?_eq_getElem _)
      obtain ⟨hx1, hx2, _⟩ := Hok.out.decl.ok x (by rw [hx]; exact List.getElem_mem _)
      have HSn := Lib.hid (show picks Φ (isB7 sev) (Φ.dec.take (k + 1)) = out ++ picksTo Φ (isB7 sev) x (x.hi + 1) by rw [List.take_succ_eq_append_getElem hlt, ← hx, picks_snoc, HO.out])
      obtain ⟨Au, cu, rfl⟩ := own_slice hfld
      obtain ⟨X, hX⟩ : ∃ X, X = Obj.cells #[Value.int IntKind.i64 x.lo, Value.int IntKind.i64 x.hi, Value.slice Au x.fields.length cu] 81 := ⟨_, rfl⟩
      have hbx := alloc_below wr X
      have HX7 := Lib.hid (show Blk (wr.alloc X) wr.heap.size 81 #[Value.int IntKind.i64 x.lo, Value.int IntKind.i64 x.hi, Value.slice Au x.fields.length cu] by rw [hX]; exact row_new _ _)
      have HU0 := Lib.hid (show IntsAt (wr.alloc X) w.heap.size u5 out from own_below HU.out hbx)
      have HB0 := Lib.hid (HB.out.trans (hbx.mono HB.out.size))
      rw [hX] at HX7 HU0 HB0
      clear hRr hu hx e0 e1 e2 hfld hX hbx HU HB HO X
      go_upto_region 5 with fail
      clear q0 q1 q2
      generalize wr.alloc _ = W1 at *
      generalize wr.heap.size = xb at *
      have q0 := HX7.out.cell 0
      go_wp2_with fail
      clear q0
      go_loopw [5, 8] (fun o r wx => ∃ (q : Nat) (os : List Int), r = .int .i64 q ∧ x.lo ≤ q ∧ q ≤ x.hi + 1 ∧ Hid (os = out ++ picksTo Φ (isB7 sev) x q) ∧ os.length ≤ 1114112 * k + (q - x.lo) ∧ Hid (IntsAt wx w.heap.size o os) ∧ Hid (Blk wx xb 81 #[Value.int IntKind.i64 x.lo, Value.int IntKind.i64 x.hi, Value.slice Au x.fields.length cu]) ∧ Hid (Below w.heap.size w wx)) (fun _ r _ => x.hi + 1 - (intOf r).toNat)
      case atStart => exact ⟨x.lo, out, rfl, Nat.le_refl _, by omega, (show out = out ++ _ by rw [picksTo_zero, List.append_nil]), by omega, HU0, HX7, HB0⟩
      case round =>
        clear HU0 HX7 HB0
        obtain ⟨q, os, rfl, hq1, hq2, HO, hol2, HU, HX7, HB⟩ := hrel
        have q1 := HX7.out.cell 1
        by_cases hle : q ≤ x.hi
        · have d1 : decide ((q : Int) ≤ (x.hi : Int)) = true := by rw [decide_eq_true_eq]; omega
          have b1 : IntKind.i64.wrap ((q : Int) + 1) = ((q + 1 : Nat) : Int) := by rw [IntKind.wrap_i64]; omega
          have HFW := Lib.hid (HF.out wr (q : Int) (HRef.out.below HB.out))
          have HB1 := Lib.hid b1
          clear b1
          go_wp2_with fail
          refine HFW.out.mono ?_
          rintro e w2 ⟨v2, rfl, hv2, hb2⟩
          have HU2 := Lib.hid (own_below HU.out hb2)
          have HX2 := Lib.hid (HX7.out.below hb2)
          have HB2 := Lib.hid (HB.out.trans (hb2.mono HB.out.size))
          have hnx := picksTo_next Φ (isB7 sev) x q hq1
          obtain ⟨A2, c2, rfl⟩ := own_slice hv2
          clear hv2 hb2 HFW HU HX7 HB
          unfold isB7 manyB at hnx
          obtain ⟨mb, hmb⟩ : ∃ mb : Bool, decide ((((dall (partsOf Φ.dec) (q : Int)).length : Nat) : Int) > 1) = mb := ⟨_, rfl⟩
          have hmb2 : decide (1 < (dall (partsOf Φ.dec) (q : Int)).length) = mb := by rw [← hmb]; exact decide_eq_decide.2 (by omega)
          rw [hmb2] at hnx
          clear hmb2
          cases hP : (mb == sev) with
          | true =>
            rw [hP, if_pos rfl] at hnx
            have HN := Lib.hid (show os ++ [(q : Int)] = out ++ picksTo Φ (isB7 sev) x (q + 1) by unfold isB7 manyB; rw [hnx]; have := HO.out; unfold isB7 manyB at this; rw [this, List.append_assoc])
            have hob : (os.length + 1) * 8 ≤ 140737488355328 := by omega
            clear hnx HO
            have b1 := HB1.out
            go_wp2_with (at_builtin; refine wp_append_lit slInt7 rfl (.tmp 33) (.tmp 35) rfl w.heap.size u5 os.length (intz os) rfl (by exact HU2.out) #[.int .i64 (q : Int)] rfl rfl (by simp [Value.oneCell']) hob (by exact HB2.out.size) ?_; intro v6 w6 hown6 hg6; have HX6 := Lib.hid (HX2.out.grown hg6 (blk_ne7 HX2.out HU2.out (by decide))); have HU6 := Lib.hid hown6; have HB6 := Lib.hid (HB2.out.grown hg6 HB2.out.size (fun k hk => (own_lt HU2.out k hk).1)); clear hown6 hg6)
            go_roundw
            case rel => clear b1; exact ⟨q + 1, os ++ [(q : Int)], by first | rfl | go_num, by omega, by omega, HN, by rw [List.length_append, List.length_singleton]; omega, (show IntsAt _ _ _ _ by unfold IntsAt; rw [List.length_append, ← intz_snoc7]; exact HU6.out), HX6, HB6⟩
            case measure => clear b1; simp [intOf]; omega
          | false =>
            rw [hP, if_neg (by decide), List.append_nil] at hnx
            have HN := Lib.hid (show os = out ++ picksTo Φ (isB7 sev) x (q + 1) by unfold isB7 manyB; rw [hnx]; exact HO.out)
            clear hnx HO
            have b1 := HB1.out
            go_wp2_with fail
            go_roundw
            case rel => clear b1; exact ⟨q + 1, os, by first | rfl | go_num, by omega, by omega, HN, by omega, HU2, HX2, HB2⟩
            case measure => clear b1; simp [intOf]; omega
        · have d1 : decide ((q : Int) ≤ (x.hi : Int)) = false := by rw [decide_eq_false_iff_not]; omega
          have hqe : q = x.hi + 1 := by omega
          have HN := Lib.hid (show os = picks Φ (isB7 sev) (Φ.dec.take (k + 1)) by rw [HSn.out, HO.out, hqe])
          clear HO HX7
          go_wp2_with fail
          go_roundw
          case rel => exact ⟨k + 1, os, by omega, by go_num, HN, by omega, HU, HB⟩
          case measure => simp [intOf]; omega
    · have hke : k = Φ.dec.length := by omega
      have hout : out = picks Φ (isB7 sev) Φ.dec := by rw [HO.out, hke, List.take_length]
      subst hout
      obtain ⟨A3, c3, rfl⟩ := own_slice HU.out
      clear HO
      have HFin := Lib.hid (show CloneSaid (picks Φ (isB7 sev) Φ.dec) w (.returned _) _ from ⟨_, rfl, HU.out, HB.out⟩)
      clear HU HB
      go_wp2_with fail
      go_ret
      exact HFin.out
theorem isB7_true (l : List Int) : isB7 true l = manyB l := by unfold isB7; cases manyB l <;> rfl
theorem isB7_false {l : List Int} (h : l ≠ []) : isB7 false l = oneB7 l := by
  unfold isB7 manyB oneB7
  have : 0 < l.length := List.length_pos_iff.2 h
  by_cases h1 : l.length = 1
  · rw [decide_eq_true h1, decide_eq_false (by omega)]; rfl
  · rw [decide_eq_false h1, decide_eq_true (by omega)]; rfl
theorem picks_many (Φ : Files) (rs : List Rec) : picks Φ (isB7 true) rs = picks Φ manyB rs := picks_congr (fun r => isB7_true _) rs
theorem dall_ne7 (P : Int → Option (List Nat)) (r : Int) : dall P r ≠ [] := dall_ne P 5 r
theorem picks_one (Φ : Files) (rs : List Rec) : picks Φ (isB7 false) rs = picks Φ oneB7 rs := picks_congr (fun r => isB7_false (dall_ne7 _ _)) rs
theorem members07_walk {w : World} {B b : Nat} (hr : RefAt w B b files) : Calls Tryz.prog 28 #[.pointer (some ⟨b, 0, none⟩)] w (CloneSaid (picks files manyB files.dec) w) := by
  have HL := Lib.hid (some07_walk files_ok hr (fun W r h => full07_walk files_ok files_parts files_short files_lev r h) true)
  rw [picks_many] at HL
  generalize files = Φ at *
  clear hr
  go_enter Tryz.func28, Tryz.ntmps28
  go_wp2_with fail
  refine HL.out.mono ?_
  rintro e w1 ⟨v, rfl, hv, hb⟩
  obtain ⟨A, c, rfl⟩ := own_slice hv
  clear HL
  have Hv := Lib.hid hv
  clear hv
  go_wp2_with fail
  go_ret
  exact ⟨_, rfl, Hv.out, hb⟩
theorem singles07_walk {w : World} {B b : Nat} (hr : RefAt w B b files) : Calls Tryz.prog 29 #[.pointer (some ⟨b, 0, none⟩)] w (CloneSaid (picks files oneB7 files.dec) w) := by
  have HL := Lib.hid (some07_walk files_ok hr (fun W r h => full07_walk files_ok files_parts files_short files_lev r h) false)
  rw [picks_one] at HL
  generalize files = Φ at *
  clear hr
  go_enter Tryz.func29, Tryz.ntmps29
  go_wp2_with fail
  refine HL.out.mono ?_
  rintro e w1 ⟨v, rfl, hv, hb⟩
  obtain ⟨A, c, rfl⟩ := own_slice hv
  clear HL
  have Hv := Lib.hid hv
  clear hv
  go_wp2_with fail
  go_ret
  exact ⟨_, rfl, Hv.out, hb⟩

/-! ### what the files tell -/
theorem dec_192 : ((recsOf Tryz.f60).any fun x => Nat.ble x.lo 192 && Nat.ble 192 x.hi) = true := by kernel_rfl
theorem dec_8486 : ((recsOf Tryz.f60).any fun x => Nat.ble x.lo 8486 && Nat.ble 8486 x.hi) = true := by kernel_rfl
theorem dec_some : ((recsOf Tryz.f60).all fun x => !(Sp.pts (fld0 x)).isEmpty) = true := by kernel_rfl
theorem dall_192 : (dall (partsOf (recsOf Tryz.f60)) (192 : Nat)).length = 2 := by kernel_rfl
theorem dall_8486 : (dall (partsOf (recsOf Tryz.f60)) (8486 : Nat)).length = 1 := by kernel_rfl
set_option maxRecDepth 100000 in
theorem files_192 : (files.dec.any fun x => Nat.ble x.lo 192 && Nat.ble 192 x.hi) = true := dec_192
set_option maxRecDepth 100000 in
theorem files_8486 : (files.dec.any fun x => Nat.ble x.lo 8486 && Nat.ble 8486 x.hi) = true := dec_8486
set_option maxRecDepth 100000 in
theorem files_some : (files.dec.all fun x => !(Sp.pts (fld0 x)).isEmpty) = true := dec_some
set_option maxRecDepth 100000 in
theorem files_dall192 : (dall (partsOf files.dec) (192 : Nat)).length = 2 := dall_192
set_option maxRecDepth 100000 in
theorem files_dall8486 : (dall (partsOf files.dec) (8486 : Nat)).length = 1 := dall_8486
theorem parts_keeps : ∀ (rs : List Rec) (F : Int → Option (List Nat)) (r : Int), F r ≠ none → rs.foldl (fun F x => partsRec x F) F r ≠ none
  | [], F, r, h => h
  | x :: rs, F, r, h => by
    rw [List.foldl_cons]
    refine parts_keeps rs _ r ?_
    unfold partsRec
    split
    · intro h; cases h
    · exact h
theorem parts_has : ∀ (rs : List Rec) (F : Int → Option (List Nat)) (x : Rec) (r : Int), x ∈ rs → (x.lo : Int) ≤ r → r ≤ x.hi → rs.foldl (fun F x => partsRec x F) F r ≠ none
  | y :: rs, F, x, r, hx, h1, h2 => by
    rw [List.foldl_cons]
    rcases List.mem_cons.1 hx with rfl | hx
    · refine parts_keeps rs _ r ?_
      unfold partsRec
      rw [if_pos ⟨h1, h2⟩]
      intro h; cases h
    · exact parts_has rs _ x r hx h1 h2
theorem picks_pos {Φ : Files} {P : List Int → Bool} {n : Nat} (h1 : (Φ.dec.any fun x => Nat.ble x.lo n && Nat.ble n x.hi) = true) (h2 : P (dall (partsOf Φ.dec) (n : Nat)) = true) : 0 < (picks Φ P Φ.dec).length := by
  obtain ⟨x, hx, h⟩ := List.any_eq_true.1 h1
  rw [Bool.and_eq_true, Nat.ble_eq, Nat.ble_eq] at h
  exact List.length_pos_of_mem (picks_of hx n h.1 h.2 h2)
/-- What is made of one is made of another. -/
theorem single_else {Φ : Files} (he : endB Φ.dec = true) (hs : (Φ.dec.all fun x => !(Sp.pts (fld0 x)).isEmpty) = true) {x : Rec} (hx : x ∈ Φ.dec) (r : Nat) (h1 : x.lo ≤ r) (h2 : r ≤ x.hi) : (r : Int) ∉ dall (partsOf Φ.dec) (r : Int) := by
  intro hm
  have h' := he
  unfold endB at h'
  simp only [Bool.and_eq_true] at h'
  have h4 := Nat.eq_of_beq_eq_true h'.1
  have hm2 : (r : Int) ∈ dfull (partsOf Φ.dec) 4 (r : Nat) := by
    rw [← (dfull_more 4 r (by rw [h4]; exact Nat.zero_testBit r)).1]
    exact hm
  obtain ⟨_, h7⟩ := dfull_ends he 4 (r : Int) (fun q _ => by rw [h4]; exact Nat.zero_testBit q) (r : Int) hm2
  rcases h7 with h7 | h7
  · exact parts_has Φ.dec (fun _ => none) x (r : Int) hx (by omega) (by omega) h7
  · obtain ⟨y, hy, _, _, e⟩ := parts_rec h7
    have := List.all_eq_true.1 hs y hy
    rw [← e] at this
    cases this
/-- A place of a list off any number. -/
theorem modLen7 (p : Int) (n : Nat) (h0 : 0 < n) (hn : n ≤ maxLen) : ∃ q : Nat, q < n ∧ IntKind.u64.wrap (n : Int) = (n : Int) ∧ (IntKind.u64.wrap p).tmod (n : Int) = q ∧ wrap64 (q : Int) = q ∧ IntKind.i64.wrap (q : Int) = q := by
  unfold maxLen at hn
  have e0 : ∀ a : Int, IntKind.u64.wrap a = a % 18446744073709551616 := fun a => by simp [IntKind.wrap, IntKind.bits, IntKind.signed]
  have e1 : IntKind.u64.wrap (n : Int) = (n : Int) := by rw [e0]; omega
  have h0' : 0 ≤ IntKind.u64.wrap p := by rw [e0]; exact Int.emod_nonneg _ (by decide)
  generalize IntKind.u64.wrap p = x at *
  rw [Int.tmod_eq_emod_of_nonneg h0']
  have h1 := Int.emod_nonneg x (show (n : Int) ≠ 0 by omega)
  have h2 := Int.emod_lt_of_pos x (show (0 : Int) < (n : Int) by omega)
  generalize x % (n : Int) = y at *
  refine ⟨y.toNat, by omega, e1, by omega, by unfold wrap64; omega, by rw [IntKind.wrap_i64]; omega⟩
set_option maxRecDepth 100000 in
set_option maxHeartbeats 3200000 in
theorem decompMembers_walk (p : Int) (hp : (Lit.int .i64 p).wf = true) (w : World) (hE : Env w) (hT : EnvT w) (hH : Hang w) : Calls Tryz.prog 7 #[.int .i64 p] w fun e w' => e = .returned (.bool true) ∧ Below w.heap.size w w' := by
  have HLD := Lib.hid (load_calls w hE hT)
  have HRL := Lib.hid (fun W => ref_load W)
  have HM := Lib.hid (fun (W : World) (m : Nat) (h : TabAt W m files) (hb : Below w.heap.size w W) => members_walk h (hH.below hb) (hE.below hb))
  have HS := Lib.hid (fun (W : World) (m : Nat) (h : TabAt W m files) (hb : Below w.heap.size w W) => singles_walk h (hH.below hb) (hE.below hb))
  have HMr := Lib.hid (fun (W : World) (B b : Nat) (h : RefAt W B b files) => members07_walk h)
  have HSr := Lib.hid (fun (W : World) (B b : Nat) (h : RefAt W B b files) => singles07_walk h)
  have HD := Lib.hid (fun (W : World) (m : Nat) (h : TabAt W m files) (hb : Below w.heap.size w W) (r : Int) (hr : (Lit.int .i64 r).wf = true) => decf_walk h (hH.below hb) r hr)
  have hl1 : 0 < (picks files manyB files.dec).length := picks_pos files_192 (by unfold manyB; rw [files_dall192]; rfl)
  have hm1 : 0 < (picks files oneB7 files.dec).length := picks_pos files_8486 (by unfold oneB7; rw [files_dall8486]; rfl)
  have Hl2 := Lib.hid (show ∀ a ∈ picks files manyB files.dec, (Lit.int .i64 a).wf = true ∧ 1 < (dall (partsOf files.dec) a).length from fun a ha => by
    obtain ⟨x, hx, r, rfl, h1, h2, h3⟩ := picks_mem ha
    obtain ⟨_, h5, _⟩ := files_ok.decl.ok x hx
    exact ⟨wf_i64 (by omega) (by omega), of_decide_eq_true h3⟩)
  have Hm2 := Lib.hid (show ∀ a ∈ picks files oneB7 files.dec, (Lit.int .i64 a).wf = true ∧ ∃ c, dall (partsOf files.dec) a = [c] ∧ c ≠ a from fun a ha => by
    obtain ⟨x, hx, r, rfl, h1, h2, h3⟩ := picks_mem ha
    obtain ⟨_, h5, _⟩ := files_ok.decl.ok x hx
    obtain ⟨c, hc⟩ := List.length_eq_one_iff.1 (of_decide_eq_true h3)
    refine ⟨wf_i64 (by omega) (by omega), c, hc, fun h => single_else dec_end files_some hx r h1 h2 ?_⟩
    rw [hc, h]
    exact List.mem_singleton.2 rfl)
  generalize files = Φ at *
  generalize picks Φ manyB Φ.dec = L at *
  generalize picks Φ oneB7 Φ.dec = M at *
  clear hE hT hH hp
  go_enter Tryz.func7, Tryz.ntmps7
  go_wp2_with fail
  refine HLD.out.mono ?_
  rintro e w1 ⟨rfl, ht, hb1⟩
  generalize w.heap.size = mm at ht
  have HT1 := Lib.hid ht
  have HB1 := Lib.hid hb1
  clear ht hb1 HLD
  go_wp2_with fail
  refine (HRL.out _).mono ?_
  rintro e w2 ⟨b, rfl, hr, hb2⟩
  generalize w1.heap.size = B at hr
  have HR2 := Lib.hid hr
  have HT2 := Lib.hid (HT1.out.below hb2)
  have HB2 := Lib.hid (HB1.out.trans (hb2.mono HB1.out.size))
  clear hr hb2 HRL HT1 HB1
  go_wp2_with fail
  refine (HM.out _ _ HT2.out HB2.out).mono ?_
  rintro e w3 ⟨v3, rfl, hv3, hb3⟩
  have HR3 := Lib.hid (HR2.out.below hb3)
  have HT3 := Lib.hid (HT2.out.below hb3)
  have HB3 := Lib.hid (HB2.out.trans (hb3.mono HB2.out.size))
  generalize w2.heap.size = B3 at hv3
  have HL3 := Lib.hid hv3
  clear hv3 hb3 HM HR2 HT2 HB2
  go_wp2_with fail
  refine (HS.out _ _ HT3.out HB3.out).mono ?_
  rintro e w4 ⟨v4, rfl, hv4, hb4⟩
  have HR4 := Lib.hid (HR3.out.below hb4)
  have HT4 := Lib.hid (HT3.out.below hb4)
  have HB4 := Lib.hid (HB3.out.trans (hb4.mono HB3.out.size))
  have HL4 := Lib.hid (show IntsAt w4 B3 v3 L from own_below HL3.out hb4)
  generalize w3.heap.size = B4 at hv4
  have HM4 := Lib.hid hv4
  clear hv4 hb4 HS HR3 HT3 HB3 HL3
  obtain ⟨g3, c3, rfl, _, _, _, _⟩ := own_form HL4.out hl1
  obtain ⟨g4, c4, rfl, _, _, _, _⟩ := own_form HM4.out hm1
  have z1 : (((L.length : Nat) : Int) == 0) = false := by rw [beq_eq_false_iff_ne]; omega
  have z2 : (((M.length : Nat) : Int) == 0) = false := by rw [beq_eq_false_iff_ne]; omega
  obtain ⟨i, hi, a1, a2, a3, a4⟩ := modLen7 p L.length hl1 (own_len HL4.out)
  obtain ⟨j, hj, b1, b2, b3, b4⟩ := modLen7 p M.length hm1 (own_len HM4.out)
  obtain ⟨a, ha⟩ : ∃ a, a = L[i] := ⟨_, rfl⟩
  obtain ⟨c, hc⟩ : ∃ c, c = M[j] := ⟨_, rfl⟩
  have p1 : w4.cell? ⟨g3, i, none⟩ = some (.int .i64 a) := own_cell HL4.out i _ (by rw [ha]; unfold intz; rw [List.getElem?_map, List.getElem?_eq_getElem hi]; rfl)
  have p2 : w4.cell? ⟨g4, j, none⟩ = some (.int .i64 c) := own_cell HM4.out j _ (by rw [hc]; unfold intz; rw [List.getElem?_map, List.getElem?_eq_getElem hj]; rfl)
  obtain ⟨ha1, ha2⟩ := Hl2.out a (by rw [ha]; exact List.getElem_mem _)
  obtain ⟨hc1, d, hc2, hc3⟩ := Hm2.out c (by rw [hc]; exact List.getElem_mem _)
  have Ha := Lib.hid ha1
  have Hc := Lib.hid hc1
  have Hc2 := Lib.hid hc2
  clear ha hc ha1 hc1 hc2 Hl2 Hm2
  go_wp2_with fail
  go_quiet (fail)
  simp only [Exit.then]
  have hb5 := below_drewN w4 nq
  replace HR4 := Lib.hid (HR4.out.below hb5)
  replace HT4 := Lib.hid (HT4.out.below hb5)
  replace HL4 := Lib.hid (own_below HL4.out hb5)
  replace HM4 := Lib.hid (own_below HM4.out hb5)
  replace HB4 := Lib.hid (HB4.out.trans (hb5.mono HB4.out.size))
  generalize w4.drewN nq = w5 at *
  clear hb5 p1 p2 a1 a2 a3 a4 b1 b2 b3 b4 z1 z2
  go_wp2_with fail
  refine (HMr.out _ B b HR4.out).mono ?_
  rintro e w6 ⟨v6, rfl, hv6, hb6⟩
  replace HR4 := Lib.hid (HR4.out.below hb6)
  replace HT4 := Lib.hid (HT4.out.below hb6)
  replace HL4 := Lib.hid (own_below HL4.out hb6)
  replace HM4 := Lib.hid (own_below HM4.out hb6)
  replace HB4 := Lib.hid (HB4.out.trans (hb6.mono HB4.out.size))
  have HE := Lib.hid (equalv_walk (ListAt.of_own HL4.out) (ListAt.of_own hv6))
  obtain ⟨A6, c6, rfl⟩ := own_slice hv6
  clear hv6 hb6 HMr
  go_wp2_with fail
  refine HE.out.mono ?_
  rintro e w7 ⟨rfl, hb7⟩
  replace HR4 := Lib.hid (HR4.out.below hb7)
  replace HT4 := Lib.hid (HT4.out.below hb7)
  replace HL4 := Lib.hid (own_below HL4.out hb7)
  replace HM4 := Lib.hid (own_below HM4.out hb7)
  replace HB4 := Lib.hid (HB4.out.trans (hb7.mono HB4.out.size))
  clear hb7 HE
  go_wp2_with fail
  refine (HSr.out _ B b HR4.out).mono ?_
  rintro e w8 ⟨v8, rfl, hv8, hb8⟩
  replace HR4 := Lib.hid (HR4.out.below hb8)
  replace HT4 := Lib.hid (HT4.out.below hb8)
  replace HL4 := Lib.hid (own_below HL4.out hb8)
  replace HM4 := Lib.hid (own_below HM4.out hb8)
  replace HB4 := Lib.hid (HB4.out.trans (hb8.mono HB4.out.size))
  have HE := Lib.hid (equalv_walk (ListAt.of_own HM4.out) (ListAt.of_own hv8))
  obtain ⟨A8, c8, rfl⟩ := own_slice hv8
  clear hv8 hb8 HSr
  go_wp2_with fail
  refine HE.out.mono ?_
  rintro e w9 ⟨rfl, hb9⟩
  replace HR4 := Lib.hid (HR4.out.below hb9)
  replace HT4 := Lib.hid (HT4.out.below hb9)
  replace HL4 := Lib.hid (own_below HL4.out hb9)
  replace HM4 := Lib.hid (own_below HM4.out hb9)
  replace HB4 := Lib.hid (HB4.out.trans (hb9.mono HB4.out.size))
  clear hb9 HE
  go_wp2_with fail
  refine (HD.out _ _ HT4.out HB4.out a Ha.out).mono ?_
  rintro e w10 ⟨v10, rfl, hv10, hb10⟩
  replace HR4 := Lib.hid (HR4.out.below hb10)
  replace HT4 := Lib.hid (HT4.out.below hb10)
  replace HL4 := Lib.hid (own_below HL4.out hb10)
  replace HM4 := Lib.hid (own_below HM4.out hb10)
  replace HB4 := Lib.hid (HB4.out.trans (hb10.mono HB4.out.size))
  obtain ⟨A10, c10, rfl⟩ := own_slice hv10
  have d1 : decide ((((dall (partsOf Φ.dec) a).length : Nat) : Int) > 1) = true := by rw [decide_eq_true_eq]; omega
  clear hv10 hb10
  go_wp2_with fail
  refine (HD.out _ _ HT4.out HB4.out c Hc.out).mono ?_
  rintro e w11 ⟨v11, rfl, hv11, hb11⟩
  replace HR4 := Lib.hid (HR4.out.below hb11)
  replace HT4 := Lib.hid (HT4.out.below hb11)
  replace HL4 := Lib.hid (own_below HL4.out hb11)
  replace HM4 := Lib.hid (own_below HM4.out hb11)
  replace HB4 := Lib.hid (HB4.out.trans (hb11.mono HB4.out.size))
  rw [Hc2.out] at hv11
  obtain ⟨A11, c11, rfl⟩ := own_slice hv11
  clear hv11 hb11 d1 ha2
  have e1 : ((([d] : List Int).length : Nat) : Int) = 1 := rfl
  go_wp2_with fail
  refine (HD.out _ _ HT4.out HB4.out c Hc.out).mono ?_
  rintro e w12 ⟨v12, rfl, hv12, hb12⟩
  replace HR4 := Lib.hid (HR4.out.below hb12)
  replace HT4 := Lib.hid (HT4.out.below hb12)
  replace HL4 := Lib.hid (own_below HL4.out hb12)
  replace HM4 := Lib.hid (own_below HM4.out hb12)
  replace HB4 := Lib.hid (HB4.out.trans (hb12.mono HB4.out.size))
  rw [Hc2.out] at hv12
  obtain ⟨g12, c12, rfl, _, _, _, _⟩ := own_form hv12 (by simp)
  have p0 : w12.cell? ⟨g12, 0, none⟩ = some (.int .i64 d) := own_cell hv12 0 _ rfl
  have d2 : (d != c) = true := by rw [bne_iff_ne]; exact hc3
  clear hv12 hb12 hc3 e1
  simp only [List.length_cons, List.length_nil, Nat.zero_add]
  go_wp2_with fail
  go_ret
  exact ⟨rfl, HB4.out⟩
end Go.Proofs.YtpmbebofinlmmaaGreatDoor
