/- rubricatorlaw07.DecompHangul and DecompEnds answer true. -/
import Derived.Test.YtmdkjljcnegmeaaDoorDec2W
import Derived.Test.YtmdkjljcnegmeaaDoorFoldLawW
namespace Go.Proofs.YtmdkjljcnegmeaaDoor
open Go.RowKit
set_option linter.unusedVariables false
set_option linter.unusedSimpArgs false

def nonemptyB (f : Func) : Bool := (recsOf f).all fun r => !(fld0 r).isEmpty
theorem cat_nonempty : nonemptyB Tryd.f21 = true := by kernel_rfl
theorem dec_short : shortB (recsOf Tryd.f27) = true := by kernel_rfl
theorem valsOf_mem (rs : List Rec) : ∀ v ∈ valsOf rs, ∃ r ∈ rs, v = fld0 r := by
  have h : ∀ (rs all : List Rec) (vs : List Sp.Str), (∀ r ∈ rs, r ∈ all) → (∀ v ∈ vs, ∃ r ∈ all, v = fld0 r) → ∀ v ∈ rs.foldl (fun vs r => addVal vs (fld0 r)) vs, ∃ r ∈ all, v = fld0 r := by
    intro rs all
    induction rs with
    | nil => intro vs _ h; exact h
    | cons r rs ih =>
      intro vs hm h
      refine ih _ (fun x hx => hm x (List.mem_cons_of_mem _ hx)) ?_
      intro v hv0
      have hv : v ∈ addVal vs (fld0 r) := hv0
      unfold addVal at hv
      split at hv
      · exact h v hv
      · rcases List.mem_append.1 hv with hv | hv
        · exact h v hv
        · exact ⟨r, hm r List.mem_cons_self, by simpa using hv⟩
  exact h rs rs [] (fun _ h => h) (fun v hv => by cases hv)
theorem txOf_ne {rs : List Rec} (h : ∀ r ∈ rs, fld0 r ≠ []) (r : Int) {other : Sp.Str} (ho : other ≠ []) : txOf rs r other ≠ [] := by
  unfold txOf
  cases hg : trieGet (valsOf rs) (entCur (entsOf rs).reverse) r with
  | none => exact ho
  | some v =>
    unfold trieGet at hg
    split at hg
    · obtain ⟨x, hx, rfl⟩ := valsOf_mem rs v (List.mem_of_getElem? hg)
      exact h x hx
    · cases hg
set_option maxRecDepth 100000 in
theorem files_cat : ∀ r ∈ files.cat, fld0 r ≠ [] := by
  have h : (recsOf Tryd.f21).all (fun r => !(fld0 r).isEmpty) = true := cat_nonempty
  intro r hr
  have := List.all_eq_true.1 h r hr
  simpa using this
set_option maxRecDepth 100000 in
theorem files_short : shortB files.dec = true := dec_short
theorem endB_lev {rs : List Rec} (h : endB rs = true) : lev rs 4 = 0 := by
  unfold endB at h
  simp only [Bool.and_eq_true] at h
  exact Nat.eq_of_beq_eq_true h.1
theorem files_lev : lev files.dec 4 = 0 := endB_lev dec_end
theorem decf_walk {w : World} {m : Nat} (h : TabAt w m files) (hH : Hang w) (r : Int) (hr : (Lit.int .i64 r).wf = true) :
    Calls Tryd.prog 14 #[.pointer (some ⟨m + 3, 0, none⟩), .int .i64 r] w (CloneSaid (dall (partsOf files.dec) r) w) :=
  dec_walk h files_ok files_lev files_short (txOf_ne files_cat 0 (by decide)) hH r hr
set_option maxRecDepth 100000 in
theorem decompHangul_walk (r : Int) (hr : (Lit.int .i64 r).wf = true) (w : World) (hE : Env w) (hT : EnvT w) (hH : Hang w) : Calls Tryd.prog 4 #[.int .i64 r] w fun e w' => e = .returned (.bool true) ∧ Below w.heap.size w w' := by
  have hld := load_calls w hE hT
  have HLD := Lib.hid hld
  obtain ⟨n, hn⟩ : ∃ n : Nat, (n : Int) = r % 18446744073709551616 % 11172 := ⟨(r % 18446744073709551616 % 11172).toNat, by omega⟩
  have hn2 : n < 11172 := by omega
  have HD := Lib.hid (fun (W : World) (m : Nat) (h : TabAt W m files) (hh : Hang W) => decf_walk h hh (44032 + (n : Int)) (wf_i64 (by omega) (by omega)))
  have hds := (dall_syl (Φ := files) files_lev (x := 44032 + (n : Int)) (by unfold isSyl; simp; omega)).1
  rw [hds] at HD
  have HH := Lib.hid hH
  have a1 : (IntKind.u64.wrap r).tmod 11172 = n := by
    have : IntKind.u64.wrap r = r % 18446744073709551616 := by simp [IntKind.wrap, IntKind.bits, IntKind.signed]
    rw [this, Int.tmod_eq_emod_of_nonneg (by omega), hn]
  have a2 : wrap64 (n : Int) = n := by unfold wrap64; omega
  have a3 : wrap64 (44032 + (n : Int)) = 44032 + n := by unfold wrap64; omega
  generalize files = Φ at *
  clear hld hE hT hH hds hn
  go_enter Tryd.func4, Tryd.ntmps4
  go_wp2_with fail
  refine HLD.out.mono ?_
  rintro e w1 ⟨rfl, ht, hb1⟩
  have HT1 := Lib.hid ht
  have HB1 := Lib.hid hb1
  have HH1 := Lib.hid (HH.out.below hb1)
  clear ht hb1 HLD
  go_wp2_with fail
  refine (HD.out w1 _ HT1.out HH1.out).mono ?_
  rintro e w2 ⟨v2, rfl, hv2, hb2⟩
  have HB2 := Lib.hid (HB1.out.trans (hb2.mono HB1.out.size))
  clear HB1 HH1 HT1 HD HH hb2
  have e0 : (44032 + (n : Int) - 44032) = n := by omega
  unfold sylOf at hv2
  rw [e0] at hv2
  obtain ⟨a, ha⟩ : ∃ a : Int, a = (n : Int) / 588 := ⟨_, rfl⟩
  obtain ⟨b, hb⟩ : ∃ b : Int, b = (n : Int) / 28 % 21 := ⟨_, rfl⟩
  obtain ⟨c, hc⟩ : ∃ c : Int, c = (n : Int) % 28 := ⟨_, rfl⟩
  rw [← ha, ← hb, ← hc] at hv2
  have hsum : a * 588 + b * 28 + c = n := by omega
  have ha2 : 0 ≤ a ∧ a < 19 := by omega
  have hb2 : 0 ≤ b ∧ b < 21 := by omega
  have hc2 : 0 ≤ c ∧ c < 28 := by omega
  have b1 : IntKind.i64.wrap (4352 + a - 4352) = a := by rw [IntKind.wrap_i64]; omega
  have b2 : IntKind.i64.wrap (a * 588) = a * 588 := by rw [IntKind.wrap_i64]; omega
  have b3 : IntKind.i64.wrap (4449 + b - 4449) = b := by rw [IntKind.wrap_i64]; omega
  have b4 : IntKind.i64.wrap (b * 28) = b * 28 := by rw [IntKind.wrap_i64]; omega
  have b5 : IntKind.i64.wrap (a * 588 + b * 28) = a * 588 + b * 28 := by rw [IntKind.wrap_i64]; omega
  clear ha hb hc e0
  by_cases hz : c = 0
  · rw [if_pos hz, List.append_nil] at hv2
    obtain ⟨g2, k2, rfl, _, _, _, _⟩ := own_form hv2 (by simp)
    have c0 : w2.cell? ⟨g2, 0, none⟩ = some (.int .i64 (4352 + a)) := own_cell hv2 0 _ rfl
    have c1 : w2.cell? ⟨g2, 1, none⟩ = some (.int .i64 (4449 + b)) := own_cell hv2 1 _ rfl
    have f0 : (a * 588 + b * 28 == (n : Int)) = true := by rw [beq_iff_eq]; omega
    clear hv2 hz hsum
    simp only [List.length_cons, List.length_nil, Nat.zero_add, Nat.reduceAdd]
    go_wp2_with fail
    go_quiet (fail)
    simp only [Exit.then]
    go_wp2_with fail
    go_ret
    exact ⟨rfl, HB2.out.trans ((below_drewN _ _).mono HB2.out.size)⟩
  · rw [if_neg hz] at hv2
    obtain ⟨g2, k2, rfl, _, _, _, _⟩ := own_form hv2 (by simp)
    have c0 : w2.cell? ⟨g2, 0, none⟩ = some (.int .i64 (4352 + a)) := own_cell hv2 0 _ rfl
    have c1 : w2.cell? ⟨g2, 1, none⟩ = some (.int .i64 (4449 + b)) := own_cell hv2 1 _ rfl
    have c2 : w2.cell? ⟨g2, 2, none⟩ = some (.int .i64 (4519 + c)) := own_cell hv2 2 _ rfl
    have f0 : IntKind.i64.wrap (a * 588 + b * 28 + c) = n := by rw [IntKind.wrap_i64]; omega
    have f1 : ((n : Int) == (n : Int)) = true := by simp
    have f2 : decide (0 < c) = true := by simp; omega
    have f3 : IntKind.i64.wrap (4519 + c - 4519) = c := by rw [IntKind.wrap_i64]; omega
    clear hv2 hz hsum
    simp only [List.length_cons, List.length_nil, List.length_append, Nat.zero_add, Nat.reduceAdd]
    go_wp2_with fail
    go_quiet (fail)
    simp only [Exit.then]
    go_wp2_with fail
    go_ret
    exact ⟨rfl, HB2.out.trans ((below_drewN _ _).mono HB2.out.size)⟩
theorem dfull_wf {rs : List Rec} : ∀ (k : Nat) (r : Int), (Lit.int .i64 r).wf = true → ∀ x ∈ dfull (partsOf rs) k r, (Lit.int .i64 x).wf = true
  | k, r, hr, x, hx => by
    by_cases hs : isSyl r = true
    · have e : dfull (partsOf rs) k r = sylOf r := by cases k <;> (unfold dfull; rw [if_pos hs])
      rw [e] at hx
      unfold isSyl at hs
      simp only [Bool.and_eq_true, decide_eq_true_eq] at hs
      have hx' : 0 ≤ x ∧ x < 44032 := by
        unfold sylOf at hx
        split at hx
        · simp at hx; rcases hx with h | h <;> omega
        · simp at hx; rcases hx with h | h | h <;> omega
      exact wf_i64 (by omega) (by omega)
    · cases k with
      | zero =>
        unfold dfull at hx
        rw [if_neg hs] at hx
        obtain rfl : x = r := by simpa using hx
        exact hr
      | succ k =>
        rw [dfull_succ, if_neg hs] at hx
        split at hx
        · rename_i n l hP
          obtain ⟨m, hm, hx2⟩ := List.mem_flatMap.1 hx
          obtain ⟨y, _, _, _, e⟩ := parts_rec hP
          rw [e] at hm
          have := pts_le _ m hm
          exact dfull_wf k m (wf_i64 (by omega) (by omega)) x hx2
        · obtain rfl : x = r := by simpa using hx
          exact hr
set_option maxRecDepth 100000 in
theorem decompEnds_walk (r : Int) (hr : (Lit.int .i64 r).wf = true) (w : World) (hE : Env w) (hT : EnvT w) (hH : Hang w) : Calls Tryd.prog 5 #[.int .i64 r] w fun e w' => e = .returned (.bool true) ∧ Below w.heap.size w w' := by
  have hld := load_calls w hE hT
  have HLD := Lib.hid hld
  have Hends := Lib.hid (dall_ends dec_end r)
  have Hwf := Lib.hid (dfull_wf (rs := files.dec) 5 r hr)
  have hne : dall (partsOf files.dec) r ≠ [] := dall_ne (partsOf files.dec) 5 r
  have HD := Lib.hid (fun (W : World) (m : Nat) (h : TabAt W m files) (hh : Hang W) (x : Int) (hx : (Lit.int .i64 x).wf = true) => decf_walk h hh x hx)
  have HH := Lib.hid hH
  generalize files = Φ at *
  clear hld hE hT hH
  go_enter Tryd.func5, Tryd.ntmps5
  go_wp2_with fail
  refine HLD.out.mono ?_
  rintro e w1 ⟨rfl, ht, hb1⟩
  have HT1 := Lib.hid ht
  have HB1 := Lib.hid hb1
  have HH1 := Lib.hid (HH.out.below hb1)
  clear ht hb1 HLD HH
  go_wp2_with fail
  refine (HD.out w1 _ HT1.out HH1.out r hr).mono ?_
  rintro e w3 ⟨v3, rfl, hv3, hb3⟩
  have HT3 := Lib.hid (HT1.out.below hb3)
  have HH3 := Lib.hid (HH1.out.below hb3)
  have HB3 := Lib.hid (HB1.out.trans (hb3.mono HB1.out.size))
  have Hwf2 := Lib.hid (fun x (hx : x ∈ dall (partsOf Φ.dec) r) => Hwf.out x hx)
  generalize hl : dall (partsOf Φ.dec) r = l at *
  have hpos : 0 < l.length := List.length_pos_iff.2 hne
  obtain ⟨g3, k3, rfl, hg31, hg32, hg33, hg34⟩ := own_form hv3 hpos
  have hlen := own_len hv3
  unfold maxLen at hlen
  have HV3 := Lib.hid hv3
  clear hv3 hb3 HT1 HB1 HH1 hl hne Hwf
  go_wp2_with fail
  go_loopw [13] (fun i wr => ∃ k : Nat, k ≤ l.length ∧ i = .int .i64 k ∧ Hid (Below w3.heap.size w3 wr)) (fun i _ => l.length - (intOf i).toNat)
  case atStart => exact ⟨0, by omega, rfl, Below.refl _ _⟩
  case round =>
    obtain ⟨k, hk, rfl, HB⟩ := hrel
    have HTr := Lib.hid (HT3.out.below HB.out)
    have HHr := Lib.hid (HH3.out.below HB.out)
    by_cases hlt : k < l.length
    · obtain ⟨x, hx⟩ : ∃ x, x = l[k] := ⟨_, rfl⟩
      have hxm : x ∈ l := by rw [hx]; exact List.getElem_mem _
      have cx : wr.cell? ⟨g3, k, none⟩ = some (.int .i64 x) := (HB.out.cell (p := ⟨_, _, _⟩) hg32).trans (own_cell HV3.out k _ (by unfold intz; rw [List.getElem?_map, List.getElem?_eq_getElem hlt, hx]; rfl))
      have hxs := Hends.out x hxm
      have hxw := Hwf2.out x hxm
      have hfw := HD.out wr _ HTr.out HHr.out x hxw
      rw [hxs] at hfw
      have HFW := Lib.hid hfw
      clear hx hxm hxs hfw
      go_wp2_with fail
      refine HFW.out.mono ?_
      rintro e w4 ⟨v4, rfl, hv4, hb4⟩
      have HV4 := Lib.hid hv4
      have HB4 := Lib.hid (HB.out.trans (hb4.mono HB.out.size))
      clear hv4 hb4 HFW HTr HHr cx
      go_wp2_with fail
      have hba := alloc_below w4 (Obj.cells #[Value.int IntKind.i64 x] 3)
      refine (equal_walk (own_below HV4.out hba) (l := [x]) (m := [x]) (own_fresh1 w4 3 (Value.int .i64 x))).mono ?_
      rintro e w5 ⟨rfl, hb5⟩
      have HB5 := Lib.hid (HB4.out.trans ((hba.mono HB4.out.size).trans (hb5.mono (Nat.le_trans HB4.out.size hba.size))))
      have e1 : ([x] == [x]) = true := by simp
      rw [e1]
      clear hb5 hba HV4 HB4 e1
      go_wp2_with fail
      go_roundw
      case rel => exact ⟨k + 1, by omega, by go_num, HB5⟩
      case measure => simp [intOf]; omega
    · have hkl : k = l.length := by omega
      subst hkl
      have HB9 := Lib.hid (HB3.out.trans (HB.out.mono HB3.out.size))
      have d0 : decide (((l.length : Nat) : Int) > 0) = true := by simp; omega
      clear HB HT3 HB3 HV3 Hends Hwf2 HTr HHr HD HH3
      go_wp2_with fail
      go_ret
      exact ⟨rfl, HB9.out⟩
end Go.Proofs.YtmdkjljcnegmeaaDoor
