/- rubricatorlaw06.PropsNames answers true. -/
import Derived.Test.YtchkckfadennhaaGreatDoorEqR
import Derived.Test.YtchkckfadennhaaGreatDoorHasR
import Derived.Test.YtchkckfadennhaaGreatDoorAwk6
namespace Go.Proofs.YtchkckfadennhaaGreatDoor
open Go.RowKit Go.Maps
set_option linter.unusedVariables false
set_option linter.unusedSimpArgs false

theorem can_nil {L : List Rg} (h : CanL L) (h0 : ∀ r, ¬ inSet L r) : L = [] := by
  cases L with
  | nil => rfl
  | cons a L => exact absurd ⟨a, by simp, Int.le_refl _, h.2 a (by simp)⟩ (h0 a.lo)
theorem hi_scrN : ∀ x ∈ files.scr, x.hi ≤ 1114111 := fun x hx => (sets_ok.scr.ok x hx).2.1
theorem propN_in {k : Int} {v : Sp.Str} {r : Int} (h : propSet files k v r) : 0 ≤ r ∧ r ≤ 1114111 := by
  have hi : ∀ c r, hitOf files.scr r = some c → 0 ≤ r ∧ r ≤ 1114111 := fun c r h => (hit_in hi_scrN h).1
  unfold propSet at h
  repeat' split at h
  · exact h.1
  · exact h.1
  · exact h
  · omega
  · rcases h with h | h <;> exact h.1
  · exact h.1
  · exact h.1
  · obtain ⟨x, hx, h1, h2⟩ := h
    simp [spaceL] at hx
    rcases hx with rfl | rfl | rfl | rfl | rfl <;> (simp only at h1 h2; omega)
  · exact hi _ _ h
theorem val_short {l : Sp.Str} {k : Int} {v : Sp.Str} (h : Sp.resolve names l = (k, v, 0)) : v.length ≤ 1000 := by
  obtain ⟨f, hf, _, _, _, rfl⟩ := Sp.resolve_row names_ok h
  obtain ⟨a, b, c, rfl, _⟩ := names_three hf
  exact names_len.2 _ hf b (by simp)
set_option maxRecDepth 100000 in
theorem propsNames_walk (s : ByteArray) (w : World) (hs : s.size ≤ 2000000) (hE : Env w) (hT : EnvT w) : Calls Tryz.prog 6 #[.string s] w fun e w' => e = .returned (.bool true) ∧ Below w.heap.size w w' := by
  obtain ⟨l, hl⟩ : ∃ l : Sp.Str, s = ⟨l.toArray⟩ := ⟨s.data.toList, by simp⟩
  subst hl
  have hll : l.length ≤ 2000000 := by rw [toB_size] at hs; exact hs
  have HLD := Lib.hid (load_calls w hE hT)
  have HA := Lib.hid (fun (W : World) (hb : Below w.heap.size w W) => awake06_walk W (hE.below hb) (hT.below hb))
  have HR := Lib.hid (fun (W : World) (hb : Below w.heap.size w W) => res_of l hll W (hE.below hb))
  have HS := Lib.hid (fun (W : World) (m : Nat) (ht : TabAt W m files) (hb : Below w.heap.size w W) => set_walk ht (hE.below hb) l hll)
  have HS2 := Lib.hid (fun (l2 : Sp.Str) (h2 : l2.length ≤ 2000000) (W : World) (m : Nat) (ht : TabAt W m files) (hb : Below w.heap.size w W) => set_walk ht (hE.below hb) l2 h2)
  have Hin := Lib.hid (fun (k : Int) (v : Sp.Str) (r : Int) (h : propSet files k v r) => propN_in h)
  obtain ⟨x, hx⟩ : ∃ x, x = Sp.resolve names l := ⟨_, rfl⟩
  rw [← hx] at HR HS
  obtain ⟨k, v, e⟩ := x
  simp only at HR HS
  have hx' := hx.symm
  clear hx hs
  by_cases he : e = 0
  · subst he
    have hsix := Sp.resolve_six names_ok hx'
    have hk : k = 1 ∨ k = 2 ∨ k = 3 := by
      rcases hsix with ⟨h, _⟩ | ⟨h, _⟩ | ⟨h, _⟩ <;> simp [h]
    have hag := Sp.resolve_again names_ok hx'
    have hvl := val_short hx'
    have hal : (Sp.ahead k).length ≤ 3 := by rcases hk with rfl | rfl | rfl <;> decide
    have hS2 := HS2.out (Sp.ahead k ++ v) (by rw [List.length_append]; omega)
    rw [hag] at hS2
    have HS3 := Lib.hid hS2
    obtain ⟨pre, hpre⟩ : ∃ pre, pre = Sp.ahead k := ⟨_, rfl⟩
    have had : (⟨pre.toArray⟩ : ByteArray) ++ ⟨v.toArray⟩ = ⟨(Sp.ahead k ++ v).toArray⟩ := by rw [hpre]; exact toB_add _ _
    have hz1 : (⟨v.toArray⟩ : ByteArray).size = v.length := toB_size v
    have hz2 : (⟨pre.toArray⟩ : ByteArray).size = pre.length := toB_size pre
    have hz3 : (pre.length : Int) + (v.length : Int) ≤ 9223372036854775807 := by rw [hpre]; omega
    have Hlit := Lib.hid (show ∀ (W : World), ∃ j : Nat, j ≤ 3 ∧ min (max k 0) 3 = (j : Int) ∧ (W.alloc (Obj.cells #[Value.string ⟨#[]⟩, Value.string ⟨#[103, 99, 61]⟩, Value.string ⟨#[115, 99, 61]⟩, Value.string ⟨#[]⟩] 9)).cell? ⟨W.heap.size, j, none⟩ = some (.string ⟨pre.toArray⟩) from fun W => by
      have hr := row_new W (Obj.cells #[Value.string ⟨#[]⟩, Value.string ⟨#[103, 99, 61]⟩, Value.string ⟨#[115, 99, 61]⟩, Value.string ⟨#[]⟩] 9)
      rcases hk with rfl | rfl | rfl
      · exact ⟨1, by decide, by decide, by rw [(cells_of_row hr).1, hpre]; rfl⟩
      · exact ⟨2, by decide, by decide, by rw [(cells_of_row hr).1, hpre]; rfl⟩
      · exact ⟨3, by decide, by decide, by rw [(cells_of_row hr).1, hpre]; rfl⟩)
    generalize (⟨pre.toArray⟩ : ByteArray) = PB at *
    generalize (⟨v.toArray⟩ : ByteArray) = VB at *
    generalize Sp.ahead k ++ v = l2 at *
    generalize (⟨l.toArray⟩ : ByteArray) = LB at *
    generalize files = Φ at *
    clear hE hT hsix hag hk hpre hx' hS2 HS2 hal
    go_enter Tryz.func6, Tryz.ntmps6
    go_wp2_with fail
    refine HLD.out.mono ?_
    rintro e w1 ⟨rfl, ht, hb1⟩
    have HT1 := Lib.hid ht
    have HB1 := Lib.hid hb1
    clear ht hb1 HLD
    go_wp2_with fail
    refine (HR.out w1 HB1.out).mono ?_
    rintro e w2 ⟨rfl, hb2⟩
    have HT2 := Lib.hid (HT1.out.below hb2)
    have HB2 := Lib.hid (HB1.out.trans (hb2.mono HB1.out.size))
    clear hb2 HT1 HB1 HR
    go_wp2_with fail
    refine (HS.out w2 _ HT2.out HB2.out).mono ?_
    rintro e w3 ⟨u3, L3, rfl, hL3, hcan3, hset3, hb3⟩
    have HT3 := Lib.hid (HT2.out.below hb3)
    have HB3 := Lib.hid (HB2.out.trans (hb3.mono HB2.out.size))
    have HL3 := Lib.hid hL3
    have hl3 := can_few hcan3 (fun r hr => Hin.out _ _ r ((hset3 r).1 hr).2)
    have Hc3 := Lib.hid hcan3
    have Hs3 := Lib.hid hset3
    obtain ⟨A3, k3, rfl⟩ := own_slice hL3
    clear hb3 HT2 HB2 hL3 hcan3 hset3 HS
    have hba := alloc_below w3 (Obj.cells #[Value.string ⟨#[]⟩, Value.string ⟨#[103, 99, 61]⟩, Value.string ⟨#[115, 99, 61]⟩, Value.string ⟨#[]⟩] 9)
    obtain ⟨j, hj3, hjk, hcell⟩ := Hlit.out w3
    have HT3a := Lib.hid (HT3.out.below hba)
    have HB3a := Lib.hid (HB3.out.trans (hba.mono HB3.out.size))
    have HL3a := Lib.hid (own_below HL3.out hba)
    clear hba HT3 HB3 HL3
    go_wp2_with fail
    refine (HS3.out _ _ HT3a.out HB3a.out).mono ?_
    rintro e w4 ⟨u4, L4, rfl, hL4, hcan4, hset4, hb4⟩
    have heq : L4 = L3 := can_unique hcan4 Hc3.out fun r => by rw [hset4 r, Hs3.out r]; simp
    subst heq
    have HB4 := Lib.hid (HB3a.out.trans (hb4.mono HB3a.out.size))
    have HL4 := Lib.hid hL4
    have HL34 := Lib.hid (own_below HL3a.out hb4)
    obtain ⟨A4, k4, rfl⟩ := own_slice hL4
    clear hb4 HT3a HB3a HL3a hL4 hcan4 hset4 Hc3 Hs3 HS3 hcell hjk
    go_wp2_with fail
    refine (equalR_walk HL34.out HL4.out hl3).mono ?_
    rintro e w5 ⟨rfl, hb5⟩
    have HB5 := Lib.hid (HB4.out.trans (hb5.mono HB4.out.size))
    clear hb5 HB4 HL4 HL34
    go_wp2_with fail
    refine (HA.out w5 HB5.out).mono ?_
    rintro e w6 ⟨rfl, hb6⟩
    have HB6 := Lib.hid (HB5.out.trans (hb6.mono HB5.out.size))
    clear hb6 HB5
    go_wp2_with fail
    go_ret
    exact ⟨rfl, HB6.out⟩
  · have e0 : (e != 0) = true := by rw [bne, beq_eq_false_iff_ne.2 he]; rfl
    have e1 : (e == e) = true := beq_self_eq_true _
    have He := Lib.hid he
    generalize (⟨l.toArray⟩ : ByteArray) = LB at *
    generalize files = Φ at *
    clear hE hT hx' HS2 he
    go_enter Tryz.func6, Tryz.ntmps6
    go_wp2_with fail
    refine HLD.out.mono ?_
    rintro e' w1 ⟨rfl, ht, hb1⟩
    have HT1 := Lib.hid ht
    have HB1 := Lib.hid hb1
    clear ht hb1 HLD
    go_wp2_with fail
    refine (HR.out w1 HB1.out).mono ?_
    rintro e' w2 ⟨rfl, hb2⟩
    have HT2 := Lib.hid (HT1.out.below hb2)
    have HB2 := Lib.hid (HB1.out.trans (hb2.mono HB1.out.size))
    clear hb2 HT1 HB1 HR
    go_wp2_with fail
    refine (HS.out w2 _ HT2.out HB2.out).mono ?_
    rintro e' w3 ⟨u3, L3, rfl, hL3, hcan3, hset3, hb3⟩
    obtain rfl : L3 = [] := can_nil hcan3 fun r hr => He.out ((hset3 r).1 hr).1
    have HB3 := Lib.hid (HB2.out.trans (hb3.mono HB2.out.size))
    obtain ⟨A3, k3, rfl⟩ := own_slice hL3
    clear hb3 HT2 HB2 hL3 hcan3 hset3 HS
    simp only [List.length_nil]
    go_wp2_with fail
    refine (HA.out w3 HB3.out).mono ?_
    rintro e' w6 ⟨rfl, hb6⟩
    have HB6 := Lib.hid (HB3.out.trans (hb6.mono HB3.out.size))
    clear hb6 HB3
    go_wp2_with fail
    go_ret
    exact ⟨rfl, HB6.out⟩
end Go.Proofs.YtchkckfadennhaaGreatDoor
