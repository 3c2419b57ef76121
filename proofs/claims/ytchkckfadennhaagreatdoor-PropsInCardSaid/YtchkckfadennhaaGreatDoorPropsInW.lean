/- rubricatorlaw06.PropsIn answers true. -/
import Derived.Test.YtchkckfadennhaaGreatDoorHasR
namespace Go.Proofs.YtchkckfadennhaaGreatDoor
open Go.RowKit Go.Maps
set_option linter.unusedVariables false
set_option linter.unusedSimpArgs false

section
variable {w : World} {m : Nat} {Φ : Files}
theorem scriptS_walk (h : TabAt w m Φ) (hok : FilesOk Φ) (r : Int) : Calls Tryz.prog 11 #[.pointer (some ⟨m + 3, 0, none⟩), .int .i64 r] w fun e w' => e = .returned (.string ⟨(txOf Φ.scr r [90, 122, 122, 122]).toArray⟩) ∧ Below w.heap.size w w' := by
  have hn := none_walk h
  obtain ⟨⟨p0, p1, p2, p3, p4, vv, kv, hb, hf⟩, _⟩ := h
  have hc : w.cell? ⟨m + 3, 2, none⟩ = some (.pointer (some ⟨p2, 0, none⟩)) := hb.cell 2
  have ho := or_walk hf.t2 r (by have := valsOf_len Φ.scr; have := hok.scr.le; omega) [90, 122, 122, 122]
  have HN := Lib.hid hn
  have HO := Lib.hid ho
  clear hn ho hb hf
  go_enter Tryz.func11, Tryz.ntmps11
  go_wp2_with fail
  refine HN.out.mono ?_
  rintro e w' ⟨rfl, rfl⟩
  go_wp2_with fail
  refine HO.out.mono ?_
  rintro e w1 ⟨rfl, hb1⟩
  have HB1 := Lib.hid hb1
  clear hb1 HO HN
  go_wp2_with fail
  go_ret
  exact ⟨rfl, HB1.out⟩
end
def gcE : Sp.Str := [103, 99, 61]
def scE : Sp.Str := [115, 99, 61]
set_option maxRecDepth 100000 in
theorem gc_res0 : ((Cn :: valsOf (recsOf Tryz.f18)).all fun c => decide (c.length ≤ 1000) && Sp.resolve (Sp.rows (textOf Tryz.f77).data.toList) (gcE ++ c) == (1, c, 0)) = true := by kernel_rfl
set_option maxRecDepth 100000 in
theorem sc_res0 : ((Zzzz :: valsOf (recsOf Tryz.f20)).all fun c => decide (c.length ≤ 1000) && Sp.resolve (Sp.rows (textOf Tryz.f77).data.toList) (scE ++ c) == (2, c, 0)) = true := by kernel_rfl
set_option maxRecDepth 100000 in
theorem zzzz_not0 : (valsOf (recsOf Tryz.f20)).contains Zzzz = false := by kernel_rfl
set_option maxRecDepth 100000 in
theorem zzzz_not : Zzzz ∉ valsOf files.scr := by
  have h : (valsOf files.scr).contains Zzzz = false := zzzz_not0
  intro hm
  rw [List.contains_iff_mem.2 hm] at h
  cases h
theorem first_mem {rs : List Rec} (h : ∀ x ∈ rs, x.hi ≤ 1114111) (r : Int) (other : Sp.Str) : firstOf rs r other ∈ other :: valsOf rs := by
  rw [firstOf_hit]
  cases e : hitOf rs r with
  | none => exact List.mem_cons_self
  | some c => exact List.mem_cons_of_mem _ (hit_in h e).2
theorem hi_cat : ∀ x ∈ files.cat, x.hi ≤ 1114111 := fun x hx => (sets_ok.cat.ok x hx).2.1
theorem hi_scr : ∀ x ∈ files.scr, x.hi ≤ 1114111 := fun x hx => (sets_ok.scr.ok x hx).2.1
set_option maxRecDepth 100000 in
theorem gc_res (r : Int) : Sp.resolve names (gcE ++ firstOf files.cat r Cn) = (1, firstOf files.cat r Cn, 0) ∧ (firstOf files.cat r Cn).length ≤ 1000 := by
  have h1 : ((Cn :: valsOf files.cat).all fun c => decide (c.length ≤ 1000) && Sp.resolve names (gcE ++ c) == (1, c, 0)) = true := gc_res0
  have := List.all_eq_true.1 h1 _ (first_mem hi_cat r Cn)
  rw [Bool.and_eq_true, decide_eq_true_eq, beq_iff_eq] at this
  exact ⟨this.2, this.1⟩
set_option maxRecDepth 100000 in
theorem sc_res (r : Int) : Sp.resolve names (scE ++ firstOf files.scr r Zzzz) = (2, firstOf files.scr r Zzzz, 0) ∧ (firstOf files.scr r Zzzz).length ≤ 1000 := by
  have h1 : ((Zzzz :: valsOf files.scr).all fun c => decide (c.length ≤ 1000) && Sp.resolve names (scE ++ c) == (2, c, 0)) = true := sc_res0
  have := List.all_eq_true.1 h1 _ (first_mem hi_scr r Zzzz)
  rw [Bool.and_eq_true, decide_eq_true_eq, beq_iff_eq] at this
  exact ⟨this.2, this.1⟩
theorem gc_in {p : Int} (hp : 0 ≤ p ∧ p ≤ 1114111) : propSet files 1 (firstOf files.cat p Cn) p := by
  unfold propSet
  rw [if_pos rfl]
  refine ⟨hp, ?_⟩
  unfold which
  simp
theorem sc_in {p : Int} (hp : 0 ≤ p ∧ p ≤ 1114111) : propSet files 2 (firstOf files.scr p Zzzz) p := by
  have hv := Sp.resolve_six names_ok (sc_res p).1
  unfold propSet
  rw [if_neg (by decide)]
  cases e : hitOf files.scr p with
  | none =>
    have hf : firstOf files.scr p Zzzz = Zzzz := by rw [firstOf_hit, e]; rfl
    rw [hf, if_pos rfl]
    exact ⟨hp, (hit_none).1 e⟩
  | some c =>
    have hc := (hit_in hi_scr e).2
    have hf : firstOf files.scr p Zzzz = c := by rw [firstOf_hit, e]; rfl
    rw [hf] at hv ⊢
    have hz : c ≠ Zzzz := fun h => zzzz_not (h ▸ hc)
    have hn : c ∉ Sp.six := by
      rcases hv with ⟨h, _⟩ | ⟨_, h⟩ | ⟨h, _⟩
      · cases h
      · exact h
      · cases h
    rw [if_neg hz, if_neg (fun h => hn (by rw [h]; decide)), if_neg (fun h => hn (by rw [h]; decide)), if_neg (fun h => hn (by rw [h]; decide)), if_neg (fun h => hn (by rw [h]; decide)), if_neg (fun h => hn (by rw [h]; decide)), if_neg (fun h => hn (by rw [h]; decide))]
theorem prop_in {k : Int} {v : Sp.Str} {r : Int} (h : propSet files k v r) : 0 ≤ r ∧ r ≤ 1114111 := by
  have hi : ∀ c r, hitOf files.scr r = some c → 0 ≤ r ∧ r ≤ 1114111 := fun c r h => (hit_in hi_scr h).1
  unfold propSet at h
  repeat' split at h
  · exact h.1
  · exact h.1
  · exact h
  · omega
  · rcases h with h | h <;> exact h.1
  · exact h.1
  · exact h.1
  · obtain ⟨x, hx, h1, h2⟩ := h
    simp [spaceL] at hx
    rcases hx with rfl | rfl | rfl | rfl | rfl <;> (simp only at h1 h2; omega)
  · exact hi _ _ h
set_option maxRecDepth 100000 in
theorem propsIn_walk (a : Int) (ha : (Lit.int .i64 a).wf = true) (w : World) (hE : Env w) (hT : EnvT w) : Calls Tryz.prog 4 #[.int .i64 a] w fun e w' => e = .returned (.bool true) ∧ Below w.heap.size w w' := by
  have HLD := Lib.hid (load_calls w hE hT)
  obtain ⟨p, hp2, a1, a2, wp, hp3⟩ := pointMod a
  have HS1 := Lib.hid (fun (W : World) (m : Nat) (ht : TabAt W m files) (hb : Below w.heap.size w W) => set_of ht sets_ok texts_ok.scr files_ok.scr (hE.below hb) (gcE ++ firstOf files.cat p Cn) names_ok (gc_res p).1 (by
    have := res_of (gcE ++ firstOf files.cat p Cn) (by have := (gc_res p).2; rw [List.length_append]; show 3 + _ ≤ _; omega)
    rw [(gc_res p).1] at this
    exact this))
  have HS2 := Lib.hid (fun (W : World) (m : Nat) (ht : TabAt W m files) (hb : Below w.heap.size w W) => set_of ht sets_ok texts_ok.scr files_ok.scr (hE.below hb) (scE ++ firstOf files.scr p Zzzz) names_ok (sc_res p).1 (by
    have := res_of (scE ++ firstOf files.scr p Zzzz) (by have := (sc_res p).2; rw [List.length_append]; show 3 + _ ≤ _; omega)
    rw [(sc_res p).1] at this
    exact this))
  have HC := Lib.hid (fun (W : World) (m : Nat) (ht : TabAt W m files) => category_walk ht files_ok p)
  have HR := Lib.hid (fun (W : World) (m : Nat) (ht : TabAt W m files) => scriptS_walk ht files_ok p)
  have e1 : txOf files.cat p [67, 110] = firstOf files.cat p Cn := txOf_first hi_cat p _
  have e2 : txOf files.scr p [90, 122, 122, 122] = firstOf files.scr p Zzzz := txOf_first hi_scr p _
  rw [e1] at HC
  rw [e2] at HR
  have Hin1 := Lib.hid (fun (L : List Rg) (hc : CanL L) (h : ∀ r, inSet L r ↔ (0 : Int) = 0 ∧ propSet files 1 (firstOf files.cat p Cn) r) => (show hasS L p = true ∧ L.length ≤ 2000000 from ⟨(hasS_iff L p).2 ⟨hp3, (h p).2 ⟨rfl, gc_in hp3⟩⟩, can_few hc fun r hr => prop_in ((h r).1 hr).2⟩))
  have Hin2 := Lib.hid (fun (L : List Rg) (hc : CanL L) (h : ∀ r, inSet L r ↔ (0 : Int) = 0 ∧ propSet files 2 (firstOf files.scr p Zzzz) r) => (show hasS L p = true ∧ L.length ≤ 2000000 from ⟨(hasS_iff L p).2 ⟨hp3, (h p).2 ⟨rfl, sc_in hp3⟩⟩, can_few hc fun r hr => prop_in ((h r).1 hr).2⟩))
  have n1 := (gc_res p).2
  have n2 := (sc_res p).2
  generalize firstOf files.cat p Cn = c1 at *
  generalize firstOf files.scr p Zzzz = c2 at *
  generalize files = Φ at *
  have ad1 : (⟨#[103, 99, 61]⟩ : ByteArray) ++ ⟨c1.toArray⟩ = ⟨(gcE ++ c1).toArray⟩ := toB_add gcE c1
  have ad2 : (⟨#[115, 99, 61]⟩ : ByteArray) ++ ⟨c2.toArray⟩ = ⟨(scE ++ c2).toArray⟩ := toB_add scE c2
  have hs1 : (⟨c1.toArray⟩ : ByteArray).size = c1.length := toB_size c1
  have hs2 : (⟨c2.toArray⟩ : ByteArray).size = c2.length := toB_size c2
  have hcl1 : (3 : Int) + (c1.length : Int) ≤ 9223372036854775807 := by omega
  have hcl2 : (3 : Int) + (c2.length : Int) ≤ 9223372036854775807 := by omega
  generalize (⟨c1.toArray⟩ : ByteArray) = C1 at *
  generalize (⟨c2.toArray⟩ : ByteArray) = C2 at *
  generalize gcE ++ c1 = l1 at *
  generalize scE ++ c2 = l2 at *
  clear hE hT ha wp e1 e2
  go_enter Tryz.func4, Tryz.ntmps4
  go_wp2_with fail
  refine HLD.out.mono ?_
  rintro e w1 ⟨rfl, ht, hb1⟩
  have HT1 := Lib.hid ht
  have HB1 := Lib.hid hb1
  clear ht hb1 HLD
  go_wp2_with fail
  refine (HC.out w1 _ HT1.out).mono ?_
  rintro e w2 ⟨rfl, hb2⟩
  have HT2 := Lib.hid (HT1.out.below hb2)
  have HB2 := Lib.hid (HB1.out.trans (hb2.mono HB1.out.size))
  clear hb2 HT1 HB1
  go_wp2_with fail
  refine (HS1.out w2 _ HT2.out HB2.out).mono ?_
  rintro e w3 ⟨u3, L3, rfl, hL3, hcan3, hset3, hb3⟩
  obtain ⟨hh3, hl3⟩ := Hin1.out L3 hcan3 (fun r => (hset3 r).trans (by simp))
  have HT3 := Lib.hid (HT2.out.below hb3)
  have HB3 := Lib.hid (HB2.out.trans (hb3.mono HB2.out.size))
  have HL3 := Lib.hid hL3
  have Hh3 := Lib.hid hh3
  obtain ⟨A3, k3, rfl⟩ := own_slice hL3
  clear hb3 HT2 HB2 hL3 hcan3 hset3 hh3
  go_wp2_with fail
  refine (HR.out w3 _ HT3.out).mono ?_
  rintro e w4 ⟨rfl, hb4⟩
  have HT4 := Lib.hid (HT3.out.below hb4)
  have HB4 := Lib.hid (HB3.out.trans (hb4.mono HB3.out.size))
  have HL4 := Lib.hid (own_below HL3.out hb4)
  clear hb4 HT3 HB3 HL3
  go_wp2_with fail
  refine (HS2.out w4 _ HT4.out HB4.out).mono ?_
  rintro e w5 ⟨u5, L5, rfl, hL5, hcan5, hset5, hb5⟩
  obtain ⟨hh5, hl5⟩ := Hin2.out L5 hcan5 (fun r => (hset5 r).trans (by simp))
  have HB5 := Lib.hid (HB4.out.trans (hb5.mono HB4.out.size))
  have HL35 := Lib.hid (own_below HL4.out hb5)
  have HL5 := Lib.hid hL5
  have Hh5 := Lib.hid hh5
  obtain ⟨A5, k5, rfl⟩ := own_slice hL5
  clear hb5 HT4 HB4 HL4 hL5 hcan5 hset5 hh5
  have HH3 := Lib.hid (hasr_walk w5 _ _ L3 p HL35.out hl3)
  rw [Hh3.out] at HH3
  go_wp2_with fail
  refine HH3.out.mono ?_
  rintro e w6 ⟨rfl, hb6⟩
  have HB6 := Lib.hid (HB5.out.trans (hb6.mono HB5.out.size))
  have HL6 := Lib.hid (own_below HL5.out hb6)
  clear hb6
  have HH5 := Lib.hid (hasr_walk w6 _ _ L5 p HL6.out hl5)
  rw [Hh5.out] at HH5
  go_wp2_with fail
  refine HH5.out.mono ?_
  rintro e w7 ⟨rfl, hb7⟩
  have HB7 := Lib.hid (HB6.out.trans (hb7.mono HB6.out.size))
  clear hb7
  go_wp2_with fail
  go_ret
  exact ⟨rfl, HB7.out⟩
end Go.Proofs.YtchkckfadennhaaGreatDoor
