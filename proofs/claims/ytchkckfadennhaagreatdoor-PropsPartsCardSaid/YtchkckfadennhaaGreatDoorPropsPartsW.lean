/- rubricatorlaw06.PropsParts answers true. Printed by wip/tools/mkpp.py. -/
import Derived.Test.YtchkckfadennhaaGreatDoorHasR
namespace Go.Proofs.YtchkckfadennhaaGreatDoor
open Go.RowKit Go.Maps
set_option linter.unusedVariables false
set_option linter.unusedSimpArgs false

set_option maxRecDepth 100000 in
theorem cats_res0 : ((two ++ one).all fun c => Sp.resolve (Sp.rows (textOf Tryz.f77).data.toList) c == (1, c, 0)) = true := by kernel_rfl
theorem cats_res {c : Sp.Str} (h : c ∈ two ++ one) : Sp.resolve names c = (1, c, 0) := by
  have := List.all_eq_true.1 cats_res0 c h
  exact beq_iff_eq.1 this
theorem cats_short : ((two ++ one).all fun c => decide (c.length ≤ 2000000)) = true := by decide
theorem cat_res {c : Sp.Str} (h : c ∈ two ++ one) : ResOf c 1 c 0 := by
  have h1 := res_of c (by have := List.all_eq_true.1 cats_short c h; simpa using this)
  rw [cats_res h] at h1
  exact h1
def countK (l : List Sp.Str) (k : Nat) (X : Sp.Str) : Nat := ((l.take k).filter fun v => which v X).length
theorem countK_le (l : List Sp.Str) (k : Nat) (X : Sp.Str) : countK l k X ≤ k := by
  unfold countK
  exact Nat.le_trans (List.length_filter_le _ _) (by rw [List.length_take]; omega)
theorem countK_step {l : List Sp.Str} {k : Nat} (hk : k < l.length) (X : Sp.Str) : countK l (k + 1) X = countK l k X + (if which l[k] X then 1 else 0) := by
  unfold countK
  rw [List.take_succ_eq_append_getElem hk, List.filter_append, List.length_append]
  cases h : which l[k] X <;> simp [h]
theorem countK_all (l : List Sp.Str) (X : Sp.Str) : countK l l.length X = countB l X := by
  unfold countK countB
  rw [List.take_length]
/-- What Has says of a category's set. -/
theorem cat_has {Φ : Files} {v : Sp.Str} {L : List Rg} (hc : CanL L) (hL : ∀ r, inSet L r ↔ (0 : Int) = 0 ∧ propSet Φ 1 v r) {p : Int} (hp : 0 ≤ p ∧ p ≤ 1114111) : hasS L p = which v (firstOf Φ.cat p Cn) ∧ L.length ≤ 2000000 := by
  have h1 : ∀ r, inSet L r ↔ catSet Φ.cat v r := fun r => by
    rw [hL r]
    unfold propSet
    rw [if_pos rfl]
    exact ⟨fun h => h.2, fun h => ⟨rfl, h⟩⟩
  refine ⟨?_, can_few hc fun r h => ((h1 r).1 h).1⟩
  rw [Bool.eq_iff_iff, hasS_iff, h1]
  unfold catSet
  exact ⟨fun h => h.2.2, fun h => ⟨hp, hp, h⟩⟩
theorem files_count (p : Int) : countB two (firstOf files.cat p Cn) = 1 ∧ countB one (firstOf files.cat p Cn) = 1 :=
  counts (fun x hx => (sets_ok.cat.ok x hx).2.1) files_counts p
set_option maxRecDepth 100000 in
set_option maxHeartbeats 1600000 in
theorem propsParts_walk (a : Int) (ha : (Lit.int .i64 a).wf = true) (w : World) (hE : Env w) (hT : EnvT w) : Calls Tryz.prog 3 #[.int .i64 a] w fun e w' => e = .returned (.bool true) ∧ Below w.heap.size w w' := by
  have HLD := Lib.hid (load_calls w hE hT)
  obtain ⟨p, hp2, a1, a2, wp, hp3⟩ := pointMod a
  have HSet := Lib.hid (fun (c : Sp.Str) (hc : c ∈ two ++ one) (W : World) (m : Nat) (ht : TabAt W m files) (hb : Below w.heap.size w W) => set_cat ht sets_ok (hE.below hb) c c (cat_res hc))
  obtain ⟨hc1, hc2⟩ := files_count p
  have Hhas := Lib.hid (fun (c : Sp.Str) (L : List Rg) (h1 : CanL L) (h2 : ∀ r, inSet L r ↔ (0 : Int) = 0 ∧ propSet files 1 c r) => cat_has (p := (p : Int)) h1 h2 hp3)
  generalize files = Φ at *
  generalize firstOf Φ.cat p Cn = X at *
  have Hc1 := Lib.hid hc1
  have Hc2 := Lib.hid hc2
  clear hE hT ha wp hc1 hc2
  go_enter Tryz.func3, Tryz.ntmps3
  go_wp2_with fail
  refine HLD.out.mono ?_
  rintro e w1 ⟨rfl, ht, hb1⟩
  have HT1 := Lib.hid ht
  have HB1 := Lib.hid hb1
  clear ht hb1 HLD
  have hba := alloc_below w1 (Obj.cells #[Value.string ⟨#[67, 99]⟩, Value.string ⟨#[67, 102]⟩, Value.string ⟨#[67, 110]⟩, Value.string ⟨#[76, 108]⟩, Value.string ⟨#[76, 111]⟩, Value.string ⟨#[76, 116]⟩, Value.string ⟨#[76, 117]⟩, Value.string ⟨#[77, 99]⟩, Value.string ⟨#[77, 110]⟩, Value.string ⟨#[78, 100]⟩, Value.string ⟨#[78, 108]⟩, Value.string ⟨#[78, 111]⟩, Value.string ⟨#[80, 99]⟩, Value.string ⟨#[80, 100]⟩, Value.string ⟨#[80, 101]⟩, Value.string ⟨#[80, 102]⟩, Value.string ⟨#[80, 105]⟩, Value.string ⟨#[80, 111]⟩, Value.string ⟨#[80, 115]⟩, Value.string ⟨#[83, 99]⟩, Value.string ⟨#[83, 107]⟩, Value.string ⟨#[83, 109]⟩, Value.string ⟨#[83, 111]⟩, Value.string ⟨#[90, 108]⟩, Value.string ⟨#[90, 112]⟩, Value.string ⟨#[90, 115]⟩] 9)
  have hra := row_new w1 (Obj.cells #[Value.string ⟨#[67, 99]⟩, Value.string ⟨#[67, 102]⟩, Value.string ⟨#[67, 110]⟩, Value.string ⟨#[76, 108]⟩, Value.string ⟨#[76, 111]⟩, Value.string ⟨#[76, 116]⟩, Value.string ⟨#[76, 117]⟩, Value.string ⟨#[77, 99]⟩, Value.string ⟨#[77, 110]⟩, Value.string ⟨#[78, 100]⟩, Value.string ⟨#[78, 108]⟩, Value.string ⟨#[78, 111]⟩, Value.string ⟨#[80, 99]⟩, Value.string ⟨#[80, 100]⟩, Value.string ⟨#[80, 101]⟩, Value.string ⟨#[80, 102]⟩, Value.string ⟨#[80, 105]⟩, Value.string ⟨#[80, 111]⟩, Value.string ⟨#[80, 115]⟩, Value.string ⟨#[83, 99]⟩, Value.string ⟨#[83, 107]⟩, Value.string ⟨#[83, 109]⟩, Value.string ⟨#[83, 111]⟩, Value.string ⟨#[90, 108]⟩, Value.string ⟨#[90, 112]⟩, Value.string ⟨#[90, 115]⟩] 9)
  have hsa := size_new w1 (Obj.cells #[Value.string ⟨#[67, 99]⟩, Value.string ⟨#[67, 102]⟩, Value.string ⟨#[67, 110]⟩, Value.string ⟨#[76, 108]⟩, Value.string ⟨#[76, 111]⟩, Value.string ⟨#[76, 116]⟩, Value.string ⟨#[76, 117]⟩, Value.string ⟨#[77, 99]⟩, Value.string ⟨#[77, 110]⟩, Value.string ⟨#[78, 100]⟩, Value.string ⟨#[78, 108]⟩, Value.string ⟨#[78, 111]⟩, Value.string ⟨#[80, 99]⟩, Value.string ⟨#[80, 100]⟩, Value.string ⟨#[80, 101]⟩, Value.string ⟨#[80, 102]⟩, Value.string ⟨#[80, 105]⟩, Value.string ⟨#[80, 111]⟩, Value.string ⟨#[80, 115]⟩, Value.string ⟨#[83, 99]⟩, Value.string ⟨#[83, 107]⟩, Value.string ⟨#[83, 109]⟩, Value.string ⟨#[83, 111]⟩, Value.string ⟨#[90, 108]⟩, Value.string ⟨#[90, 112]⟩, Value.string ⟨#[90, 115]⟩] 9)
  generalize hg : w1.heap.size = g1 at *
  have Hcell1 := Lib.hid (show ∀ k (hk : k < 26), (w1.alloc (Obj.cells #[Value.string ⟨#[67, 99]⟩, Value.string ⟨#[67, 102]⟩, Value.string ⟨#[67, 110]⟩, Value.string ⟨#[76, 108]⟩, Value.string ⟨#[76, 111]⟩, Value.string ⟨#[76, 116]⟩, Value.string ⟨#[76, 117]⟩, Value.string ⟨#[77, 99]⟩, Value.string ⟨#[77, 110]⟩, Value.string ⟨#[78, 100]⟩, Value.string ⟨#[78, 108]⟩, Value.string ⟨#[78, 111]⟩, Value.string ⟨#[80, 99]⟩, Value.string ⟨#[80, 100]⟩, Value.string ⟨#[80, 101]⟩, Value.string ⟨#[80, 102]⟩, Value.string ⟨#[80, 105]⟩, Value.string ⟨#[80, 111]⟩, Value.string ⟨#[80, 115]⟩, Value.string ⟨#[83, 99]⟩, Value.string ⟨#[83, 107]⟩, Value.string ⟨#[83, 109]⟩, Value.string ⟨#[83, 111]⟩, Value.string ⟨#[90, 108]⟩, Value.string ⟨#[90, 112]⟩, Value.string ⟨#[90, 115]⟩] 9)).cell? ⟨g1, k, none⟩ = some (.string ⟨(two[k]'hk).toArray⟩) from fun k hk => by
    rw [(cells_of_row hra).1 k]
    have e : (#[Value.string ⟨#[67, 99]⟩, Value.string ⟨#[67, 102]⟩, Value.string ⟨#[67, 110]⟩, Value.string ⟨#[76, 108]⟩, Value.string ⟨#[76, 111]⟩, Value.string ⟨#[76, 116]⟩, Value.string ⟨#[76, 117]⟩, Value.string ⟨#[77, 99]⟩, Value.string ⟨#[77, 110]⟩, Value.string ⟨#[78, 100]⟩, Value.string ⟨#[78, 108]⟩, Value.string ⟨#[78, 111]⟩, Value.string ⟨#[80, 99]⟩, Value.string ⟨#[80, 100]⟩, Value.string ⟨#[80, 101]⟩, Value.string ⟨#[80, 102]⟩, Value.string ⟨#[80, 105]⟩, Value.string ⟨#[80, 111]⟩, Value.string ⟨#[80, 115]⟩, Value.string ⟨#[83, 99]⟩, Value.string ⟨#[83, 107]⟩, Value.string ⟨#[83, 109]⟩, Value.string ⟨#[83, 111]⟩, Value.string ⟨#[90, 108]⟩, Value.string ⟨#[90, 112]⟩, Value.string ⟨#[90, 115]⟩] : Array Value) = (two.map fun s => Value.string ⟨s.toArray⟩).toArray := rfl
    rw [e]
    simp only [List.getElem?_toArray, List.getElem?_map]
    rw [List.getElem?_eq_getElem (show k < two.length from hk)]
    rfl)
  have HTa1 := Lib.hid (HT1.out.below (by rw [hg]; exact hba))
  have HBa1 := Lib.hid (HB1.out.trans (hba.mono (by rw [← hg]; exact HB1.out.size)))
  have Hgl1 := Lib.hid hsa
  generalize hwa : w1.alloc (Obj.cells #[Value.string ⟨#[67, 99]⟩, Value.string ⟨#[67, 102]⟩, Value.string ⟨#[67, 110]⟩, Value.string ⟨#[76, 108]⟩, Value.string ⟨#[76, 111]⟩, Value.string ⟨#[76, 116]⟩, Value.string ⟨#[76, 117]⟩, Value.string ⟨#[77, 99]⟩, Value.string ⟨#[77, 110]⟩, Value.string ⟨#[78, 100]⟩, Value.string ⟨#[78, 108]⟩, Value.string ⟨#[78, 111]⟩, Value.string ⟨#[80, 99]⟩, Value.string ⟨#[80, 100]⟩, Value.string ⟨#[80, 101]⟩, Value.string ⟨#[80, 102]⟩, Value.string ⟨#[80, 105]⟩, Value.string ⟨#[80, 111]⟩, Value.string ⟨#[80, 115]⟩, Value.string ⟨#[83, 99]⟩, Value.string ⟨#[83, 107]⟩, Value.string ⟨#[83, 109]⟩, Value.string ⟨#[83, 111]⟩, Value.string ⟨#[90, 108]⟩, Value.string ⟨#[90, 112]⟩, Value.string ⟨#[90, 115]⟩] 9) = V1 at *
  clear hba hra hsa
  go_wp2_with fail
  try rw [hwa]
  clear hwa
  try rw [hg]
  clear hg
  go_loopw [4, 21] (fun n i wr => ∃ k : Nat, k ≤ 26 ∧ i = .int .i64 k ∧ n = .int .i64 (countK two k X) ∧ Hid (Below V1.heap.size V1 wr)) (fun _ i _ => 26 - (intOf i).toNat)
  case atStart => exact ⟨0, by omega, rfl, rfl, Below.refl _ _⟩
  case round =>
    obtain ⟨k, hk, rfl, rfl, HB⟩ := hrel
    by_cases hlt : k < 26
    · have hcl := (HB.out.cell (p := ⟨g1, k, none⟩) (by have := Hgl1.out; show g1 < _; omega)).trans (Hcell1.out k hlt)
      have hmem : two[k]'hlt ∈ two ++ one := List.mem_append_left _ (List.getElem_mem _)
      have hTw := HTa1.out.below HB.out
      have hBw := HBa1.out.trans (HB.out.mono HBa1.out.size)
      have HS := Lib.hid (HSet.out (two[k]'hlt) hmem wr _ hTw hBw)
      have HH := Lib.hid (fun (L : List Rg) h1 h2 => Hhas.out (two[k]'hlt) L h1 h2)
      have hcs := countK_step (l := two) (k := k) hlt X
      have hcle := countK_le two k X
      generalize hcc : (two[k]'hlt) = cc at *
      generalize hww : which cc X = ww at *
      have Hcs := Lib.hid hcs
      generalize countK two k X = n at *
      clear hcs hcc hmem hTw hBw hww
      go_wp2_with fail
      refine HS.out.mono ?_
      rintro e w2 ⟨u, L, rfl, hL, hcan, hset, hb2⟩
      obtain ⟨hh, hLl⟩ := HH.out L hcan (fun r => (hset r).trans (by simp))
      have HR := Lib.hid (hasr_walk w2 _ u L p hL hLl)
      rw [hh] at HR
      have HB2 := Lib.hid (HB.out.trans (hb2.mono HB.out.size))
      obtain ⟨A, c, rfl⟩ := own_slice hL
      clear hL hcan hset hb2 hh hLl HS HH HB
      go_wp2_with fail
      refine HR.out.mono ?_
      rintro e w3 ⟨rfl, hb3⟩
      have HB3 := Lib.hid (HB2.out.trans (hb3.mono HB2.out.size))
      clear hb3 HR
      cases ww with
      | false =>
        go_wp2_with fail
        go_roundw
        case rel =>
          skip
          exact ⟨k + 1, by omega, by go_num, by rw [Hcs.out]; rfl, HB3⟩
        case measure => simp [intOf]; omega
      | true =>
        go_wp2_with fail
        go_roundw
        case rel =>
          skip
          exact ⟨k + 1, by omega, by go_num, by rw [Hcs.out]; go_num, HB3⟩
        case measure => simp [intOf]; omega
    · obtain rfl : k = 26 := by omega
      have hall : countK two 26 X = 1 := (countK_all two X).trans Hc1.out
      rw [hall]
      have HT2 := Lib.hid (HTa1.out.below HB.out)
      have HB2 := Lib.hid (HBa1.out.trans (HB.out.mono HBa1.out.size))
      clear hall HB HTa1 HBa1 Hcell1 Hgl1 Hc1
      go_wp2_with fail
      have hba := alloc_below wr (Obj.cells #[Value.string ⟨#[67]⟩, Value.string ⟨#[76]⟩, Value.string ⟨#[77]⟩, Value.string ⟨#[78]⟩, Value.string ⟨#[80]⟩, Value.string ⟨#[83]⟩, Value.string ⟨#[90]⟩] 9)
      have hra := row_new wr (Obj.cells #[Value.string ⟨#[67]⟩, Value.string ⟨#[76]⟩, Value.string ⟨#[77]⟩, Value.string ⟨#[78]⟩, Value.string ⟨#[80]⟩, Value.string ⟨#[83]⟩, Value.string ⟨#[90]⟩] 9)
      have hsa := size_new wr (Obj.cells #[Value.string ⟨#[67]⟩, Value.string ⟨#[76]⟩, Value.string ⟨#[77]⟩, Value.string ⟨#[78]⟩, Value.string ⟨#[80]⟩, Value.string ⟨#[83]⟩, Value.string ⟨#[90]⟩] 9)
      generalize hg : wr.heap.size = g2 at *
      have Hcell2 := Lib.hid (show ∀ k (hk : k < 7), (wr.alloc (Obj.cells #[Value.string ⟨#[67]⟩, Value.string ⟨#[76]⟩, Value.string ⟨#[77]⟩, Value.string ⟨#[78]⟩, Value.string ⟨#[80]⟩, Value.string ⟨#[83]⟩, Value.string ⟨#[90]⟩] 9)).cell? ⟨g2, k, none⟩ = some (.string ⟨(one[k]'hk).toArray⟩) from fun k hk => by
        rw [(cells_of_row hra).1 k]
        have e : (#[Value.string ⟨#[67]⟩, Value.string ⟨#[76]⟩, Value.string ⟨#[77]⟩, Value.string ⟨#[78]⟩, Value.string ⟨#[80]⟩, Value.string ⟨#[83]⟩, Value.string ⟨#[90]⟩] : Array Value) = (one.map fun s => Value.string ⟨s.toArray⟩).toArray := rfl
        rw [e]
        simp only [List.getElem?_toArray, List.getElem?_map]
        rw [List.getElem?_eq_getElem (show k < one.length from hk)]
        rfl)
      have HTa2 := Lib.hid (HT2.out.below (by rw [hg]; exact hba))
      have HBa2 := Lib.hid (HB2.out.trans (hba.mono (by rw [← hg]; exact HB2.out.size)))
      have Hgl2 := Lib.hid hsa
      generalize hwa : wr.alloc (Obj.cells #[Value.string ⟨#[67]⟩, Value.string ⟨#[76]⟩, Value.string ⟨#[77]⟩, Value.string ⟨#[78]⟩, Value.string ⟨#[80]⟩, Value.string ⟨#[83]⟩, Value.string ⟨#[90]⟩] 9) = V2 at *
      clear hba hra hsa
      go_wp2_with fail
      try rw [hwa]
      clear hwa
      try rw [hg]
      clear hg
      go_loopw [5, 41] (fun n i wr => ∃ k : Nat, k ≤ 7 ∧ i = .int .i64 k ∧ n = .int .i64 (countK one k X) ∧ Hid (Below V2.heap.size V2 wr)) (fun _ i _ => 7 - (intOf i).toNat)
      case atStart => exact ⟨0, by omega, rfl, rfl, Below.refl _ _⟩
      case round =>
        obtain ⟨k, hk, rfl, rfl, HB⟩ := hrel
        by_cases hlt : k < 7
        · have hcl := (HB.out.cell (p := ⟨g2, k, none⟩) (by have := Hgl2.out; show g2 < _; omega)).trans (Hcell2.out k hlt)
          have hmem : one[k]'hlt ∈ two ++ one := List.mem_append_right _ (List.getElem_mem _)
          have hTw := HTa2.out.below HB.out
          have hBw := HBa2.out.trans (HB.out.mono HBa2.out.size)
          have HS := Lib.hid (HSet.out (one[k]'hlt) hmem wr _ hTw hBw)
          have HH := Lib.hid (fun (L : List Rg) h1 h2 => Hhas.out (one[k]'hlt) L h1 h2)
          have hcs := countK_step (l := one) (k := k) hlt X
          have hcle := countK_le one k X
          generalize hcc : (one[k]'hlt) = cc at *
          generalize hww : which cc X = ww at *
          have Hcs := Lib.hid hcs
          generalize countK one k X = n at *
          clear hcs hcc hmem hTw hBw hww
          go_wp2_with fail
          refine HS.out.mono ?_
          rintro e w2 ⟨u, L, rfl, hL, hcan, hset, hb2⟩
          obtain ⟨hh, hLl⟩ := HH.out L hcan (fun r => (hset r).trans (by simp))
          have HR := Lib.hid (hasr_walk w2 _ u L p hL hLl)
          rw [hh] at HR
          have HB2 := Lib.hid (HB.out.trans (hb2.mono HB.out.size))
          obtain ⟨A, c, rfl⟩ := own_slice hL
          clear hL hcan hset hb2 hh hLl HS HH HB
          go_wp2_with fail
          refine HR.out.mono ?_
          rintro e w3 ⟨rfl, hb3⟩
          have HB3 := Lib.hid (HB2.out.trans (hb3.mono HB2.out.size))
          clear hb3 HR
          cases ww with
          | false =>
            go_wp2_with fail
            go_roundw
            case rel =>
              refine ⟨_, _, _, _, _, _, _, _, _, _, _, _, _, _, _, _, _, _, _, _, _, _, _, ?_, rfl⟩
              exact ⟨k + 1, by omega, by go_num, by rw [Hcs.out]; rfl, HB3⟩
            case measure => simp [intOf]; omega
          | true =>
            go_wp2_with fail
            go_roundw
            case rel =>
              refine ⟨_, _, _, _, _, _, _, _, _, _, _, _, _, _, _, _, _, _, _, _, _, _, _, ?_, rfl⟩
              exact ⟨k + 1, by omega, by go_num, by rw [Hcs.out]; go_num, HB3⟩
            case measure => simp [intOf]; omega
        · obtain rfl : k = 7 := by omega
          have hall : countK one 7 X = 1 := (countK_all one X).trans Hc2.out
          rw [hall]
          have hfin := HBa2.out.trans (HB.out.mono HBa2.out.size)
          clear hall
          go_wp2_with fail
          go_ret
          exact ⟨rfl, hfin⟩
end Go.Proofs.YtchkckfadennhaaGreatDoor
