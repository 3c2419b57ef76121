/- rubricatorlaw12.both: a subject of the program, and the document's. -/
import Derived.Test.YthoegenipbohmaaGreatDoorItmB
import Derived.Test.YthoegenipbohmaaGreatDoorRowM
namespace Go.Proofs.YthoegenipbohmaaGreatDoor
open Go.RowKit Utf Itm
set_option linter.unusedVariables false
set_option linter.unusedSimpArgs false
/-- The items of a subject. -/
noncomputable def subj (canon : Bool) (bs : List Nat) : List It := if canon then nfd files (dec bs 0) else dec bs 0
theorem cut300 (n : Nat) : ∃ k : Nat, ((if 300 < (n : Int) then 300 else (n : Int)) = k ∧ min (n : Int) 300 = k ∧ (if (n : Int) ≤ 300 then (n : Int) else 300) = k) ∧ (k ≤ 300 ∧ k ≤ n) ∧ ∀ bs : List Nat, bs.length = n → bs.take 300 = bs.take k := by
  by_cases h : 300 < n
  · exact ⟨300, ⟨by rw [if_pos (by omega)]; rfl, by omega, by rw [if_neg (by omega)]; rfl⟩, by omega, fun _ _ => rfl⟩
  · exact ⟨n, ⟨by rw [if_neg (by omega)], by omega, by rw [if_pos (by omega)]⟩, by omega, fun bs hb => by rw [List.take_of_length_le (by omega), List.take_of_length_le (by omega)]⟩
def BothOf (Φ : Files) (canon : Bool) (cs : List Nat) (w : World) (e : Ending) (w' : World) : Prop := ∃ p q B B', e = .returned (.tuple #[.pointer (some ⟨p, 0, none⟩), .pointer (some ⟨q, 0, none⟩), .bool true]) ∧ TextAt w' B p cs (if canon then nfd Φ (dec cs 0) else dec cs 0) ∧ RTextAt w' B' q cs (if canon then nfd Φ (dec cs 0) else dec cs 0) ∧ Below w.heap.size w w'
def BothSaid (canon : Bool) (bs : List Nat) (w : World) (e : Ending) (w' : World) : Prop := BothOf files canon (bs.take 300) w e w'
theorem BothSaid.get {canon : Bool} {bs : List Nat} {w w' : World} {e : Ending} (h : BothSaid canon bs w e w') : ∃ p q B B', e = .returned (.tuple #[.pointer (some ⟨p, 0, none⟩), .pointer (some ⟨q, 0, none⟩), .bool true]) ∧ TextAt w' B p (bs.take 300) (subj canon (bs.take 300)) ∧ RTextAt w' B' q (bs.take 300) (subj canon (bs.take 300)) ∧ Below w.heap.size w w' := h
set_option maxRecDepth 100000 in
set_option maxHeartbeats 1600000 in
theorem both_walk {w : World} {v : Value} {bs : List Nat} (h : BytesAt w v bs) (canon : Bool) (hE : Env w) (hT : EnvT w) (hH : Hang w) : Calls Tryz.prog 27 #[v, .bool canon] w (BothSaid canon bs w) := by
  have HLD := Lib.hid (fun (W : World) (hb : Below w.heap.size w W) => load_calls W (hE.below hb) (hT.below hb))
  have HRL := Lib.hid (fun W => ref_load W)
  have HN := Lib.hid (fun (W : World) (m : Nat) (ht : TabAt W m files) (hb : Below w.heap.size w W) => nmd_files ht (hH.below hb))
  have HRN := Lib.hid (fun (W : World) (B b : Nat) (u : Value) (cs : List Nat) (hr : RefAt W B b files) (h : BytesAt W u cs) (hl : cs.length ≤ 1000) => rnew_walk hr h hl canon)
  unfold BothSaid
  generalize files = Φ at *
  clear hE hT hH
  obtain ⟨A, c, rfl, hnc, hn9, _⟩ := id h
  obtain ⟨k, ⟨hk1, m2, m3⟩, hk2, hk3⟩ := cut300 bs.length
  rw [hk3 bs rfl]
  have HAL := Lib.hid (h.cut hk2.2)
  obtain ⟨cs, hcs, hcl⟩ : ∃ cs : List Nat, cs = bs.take k ∧ cs.length = k := ⟨_, rfl, by rw [List.length_take]; omega⟩
  rw [← hcs] at HAL ⊢
  have hk300 := hk2.1
  have hk0 := hk2.2
  have H255 := Lib.hid (show ∀ b ∈ cs, b ≤ 255 by obtain ⟨_, _, _, _, _, _, h4, _⟩ := HAL.out; exact h4)
  clear h hk2 hk3 hcs
  subst hcl
  go_enter Tryz.func27, Tryz.ntmps27
  go_wp2_with fail
  refine (bclone_walk HAL.out (by omega)).mono ?_
  rintro e w1 ⟨vg, rfl, hvg, hb1⟩
  obtain ⟨Ag, cg, rfl⟩ := own_slice hvg
  have HG := Lib.hid hvg
  have HB := Lib.hid hb1
  clear hvg hb1 m2 m3 hk1
  go_wp2_with fail
  refine (HLD.out _ HB.out).mono ?_
  rintro e w2 ⟨rfl, ht, hb2⟩
  replace HB := Lib.hid (HB.out.trans (hb2.mono HB.out.size))
  have HN1 := Lib.hid (HN.out _ _ ht HB.out)
  have HGl := Lib.hid (show ∀ g, (Value.slice Ag cs.length cg).ownBlock = some g → g < w1.heap.size from fun g hg => (own_lt HG.out g hg).2)
  have hsz := hb2.size
  generalize w1.heap.size = mm at ht HN1 HGl hsz
  replace HG := Lib.hid (show BytesO w2 w.heap.size (.slice Ag cs.length cg) cs from own_below HG.out hb2)
  clear ht hb2 HLD HN
  go_wp2_with fail
  refine (new_walk HN1.out (BytesAt.of_own HG.out H255.out) (by omega) canon).mono ?_
  rintro e w3 ⟨p, rfl, hx, hb3⟩
  generalize hB : w2.heap.size = B at hx hsz
  have HX := Lib.hid hx
  replace HGl := Lib.hid (show ∀ g, (Value.slice Ag cs.length cg).ownBlock = some g → g < B from fun g hg => Nat.lt_of_lt_of_le (HGl.out g hg) hsz)
  replace HG := Lib.hid (show ∃ us : List Value, w3.ownsRow w.heap.size 5 1 (.slice Ag cs.length cg) cs.length us ∧ us.length = cs.length ∧ ∀ u ∈ us, ∃ x, u = .int .u8 x from ⟨_, own_below HG.out hb3, bytz_len cs, fun u hu => by obtain ⟨x, _, rfl⟩ := List.mem_map.1 hu; exact ⟨_, rfl⟩⟩)
  replace HB := Lib.hid (HB.out.trans (hb3.mono HB.out.size))
  clear hx hb3 HN1 hB hsz
  obtain ⟨L, hL⟩ : ∃ L, L = (if canon = true then nfd Φ (dec cs 0) else dec cs 0) := ⟨_, rfl⟩
  rw [← hL] at HX
  have HLe := Lib.hid hL
  clear hL
  go_wp2_with fail
  go_loopw [27] (fun i wr => ∃ j : Nat, j ≤ cs.length ∧ i = .int .i64 j ∧ Hid (∃ us : List Value, wr.ownsRow w.heap.size 5 1 (.slice Ag cs.length cg) cs.length us ∧ us.length = cs.length ∧ ∀ u ∈ us, ∃ x, u = .int .u8 x) ∧ Hid (TextAt wr B p cs L) ∧ Hid (Below w.heap.size w wr)) (fun i _ => cs.length - (intOf i).toNat)
  case atStart => exact ⟨0, Nat.zero_le _, rfl, HG, HX, HB⟩
  case round =>
    clear HG HX HB
    obtain ⟨j, hj, rfl, HG, HX, HB⟩ := hrel
    by_cases hlt : j < cs.length
    · obtain ⟨us, hus, hul, hui⟩ := HG.out
      obtain ⟨g, cap, hv, hgb, _⟩ := own_form hus (by omega)
      injection hv with hA h0 h1
      subst hA h1
      clear h0
      obtain ⟨x, hx⟩ := hui us[j] (List.getElem_mem _)
      have cx := own_cell hus j _ (by rw [List.getElem?_eq_getElem (by omega), hx])
      have fx := own_free hus j
      have hgB := HGl.out g rfl
      have HU := Lib.hid (fun y => own_set (j := j) (u := y) hus (by omega))
      have HUi := Lib.hid hui
      have HUl := Lib.hid hul
      have HGB := Lib.hid hgB
      have HGb := Lib.hid hgb
      clear hus hul hui HG hx hgB hgb
      go_wp2_with fail
      go_roundw
      case rel => exact ⟨j + 1, by omega, by go_num, ⟨_, HU.out _, by rw [List.length_set]; exact HUl.out, fun u hu => by
        rcases List.mem_or_eq_of_mem_set hu with h | h
        · exact HUi.out u h
        · exact ⟨_, h⟩⟩, HX.out.kept (set_grown wr ⟨g, j, none⟩ _) HGB.out, HB.out.setCell (p := ⟨g, j, none⟩) HGb.out _⟩
      case measure => simp [intOf]; omega
    · have hje : j = cs.length := by omega
      subst hje
      clear HG HGl
      go_wp2_with fail
      refine (HRL.out _).mono ?_
      rintro e w4 ⟨b, rfl, hr, hb4⟩
      generalize wr.heap.size = B4 at hr
      have HR := Lib.hid hr
      replace HX := Lib.hid (HX.out.below hb4)
      replace HB := Lib.hid (HB.out.trans (hb4.mono HB.out.size))
      have HA4 := Lib.hid (HAL.out.below HB.out)
      clear hr hb4 HRL HAL
      go_wp2_with fail
      refine (HRN.out w4 _ b _ cs HR.out HA4.out (by omega)).mono ?_
      rintro e w5 ⟨q, rfl, hq, hb5⟩
      generalize w4.heap.size = B5 at hq
      rw [← HLe.out] at hq
      have HQ := Lib.hid hq
      replace HX := Lib.hid (HX.out.below hb5)
      replace HB := Lib.hid (HB.out.trans (hb5.mono HB.out.size))
      clear hq hb5 HRN HR HA4
      go_wp2_with fail
      go_ret3
      have hx := HX.out
      have hq := HQ.out
      rw [HLe.out] at hx hq
      exact ⟨p, q, _, _, rfl, hx, hq, HB.out⟩
end Go.Proofs.YthoegenipbohmaaGreatDoor
