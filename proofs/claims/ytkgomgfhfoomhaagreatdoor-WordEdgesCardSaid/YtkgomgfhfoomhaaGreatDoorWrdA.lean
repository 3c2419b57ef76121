/- word: the small functions over texts of breaks, and the function values that joined makes of them. -/
import Derived.Test.YtkgomgfhfoomhaaGreatDoorWrdP
import Derived.Test.YtkgomgfhfoomhaaGreatDoorDagG
import Derived.Test.YtkgomgfhfoomhaaGreatDoorClu
namespace Go.Proofs.YtkgomgfhfoomhaaGreatDoor
open Go.RowKit
set_option linter.unusedVariables false
set_option linter.unusedSimpArgs false

theorem passed_walk (s : ByteArray) (w : World) : Calls Tryz.prog 73 #[.string s] w fun e w' => e = .returned (.bool (passedB s.toList)) ∧ w = w' := by
  unfold passedB
  cases h1 : s.toList == [69, 120, 116, 101, 110, 100] <;> cases h2 : s.toList == [70, 111, 114, 109, 97, 116] <;> cases h3 : s.toList == [90, 87, 74] <;>
    (go_enter Tryz.func73, Tryz.ntmps73
     go_wp2
     go_ret
     exact ⟨rfl, rfl⟩)
theorem line_walk (s : ByteArray) (w : World) : Calls Tryz.prog 72 #[.string s] w fun e w' => e = .returned (.bool (lineB s.toList)) ∧ w = w' := by
  unfold lineB
  cases h1 : s.toList == [78, 101, 119, 108, 105, 110, 101] <;> cases h2 : s.toList == [67, 82] <;> cases h3 : s.toList == [76, 70] <;>
    (go_enter Tryz.func72, Tryz.ntmps72
     go_wp2
     go_ret
     exact ⟨rfl, rfl⟩)
theorem letter_walk (s : ByteArray) (w : World) : Calls Tryz.prog 116 #[.string s] w fun e w' => e = .returned (.bool (letterB s.toList)) ∧ w = w' := by
  unfold letterB
  cases h1 : s.toList == [76, 101, 116, 116, 101, 114] <;> cases h2 : s.toList == [72, 101, 98, 114, 101, 119] <;>
    (go_enter Tryz.func116, Tryz.ntmps116
     go_wp2
     go_ret
     exact ⟨rfl, rfl⟩)
theorem quote_walk (s : ByteArray) (w : World) : Calls Tryz.prog 118 #[.string s] w fun e w' => e = .returned (.bool (quoteB s.toList)) ∧ w = w' := by
  unfold quoteB
  cases h1 : s.toList == [77, 105, 100, 78, 117, 109, 76, 101, 116] <;> cases h2 : s.toList == [83, 105, 110, 103, 108, 101, 81, 117, 111, 116, 101] <;>
    (go_enter Tryz.func118, Tryz.ntmps118
     go_wp2
     go_ret
     exact ⟨rfl, rfl⟩)
theorem solid_walk (s : ByteArray) (w : World) : Calls Tryz.prog 119 #[.string s] w fun e w' => e = .returned (.bool (solidB s.toList)) ∧ w = w' := by
  have hl := letter_walk s w
  unfold solidB
  cases h0 : letterB s.toList <;> cases h1 : s.toList == [78, 117, 109, 101, 114, 105, 99] <;> cases h2 : s.toList == [75, 97, 116, 97, 107, 97, 110, 97] <;>
    (rw [h0] at hl
     go_enter Tryz.func119, Tryz.ntmps119
     go_wp2_with fail
     refine hl.mono ?_
     rintro e w' ⟨rfl, rfl⟩
     go_wp2_with fail
     go_ret
     exact ⟨rfl, rfl⟩)
/-- A function value that tells of texts. -/
def FnIs (w : World) (v : Value) (P : Sp.Str → Bool) : Prop := ∃ f cap, v = .func (.func f) #[] cap ∧ (∀ (args : Array Value) (W : World), (callFunc f args).run Tryz.prog W = .ok (.enter f args) W) ∧ ∀ (s : ByteArray) (W : World), Below w.heap.size w W → Calls Tryz.prog f (#[.string s] ++ cap) W fun e W' => e = .returned (.bool (P s.toList)) ∧ Below W.heap.size W W'
theorem FnIs.below {w w' : World} {v : Value} {P : Sp.Str → Bool} (h : FnIs w v P) (hb : Below w.heap.size w w') : FnIs w' v P := by
  obtain ⟨f, cap, rfl, hg, hc⟩ := h
  exact ⟨f, cap, rfl, hg, fun s W hW => hc s W (hb.trans (hW.mono hb.size))⟩
theorem fn_letter (w : World) : FnIs w (.func (.func 116) #[] #[]) letterB := ⟨_, _, rfl, (fun args W => by simp [go_sem]), fun s W _ => (letter_walk s W).mono fun e W' ⟨h1, h2⟩ => ⟨h1, by subst h2; exact Below.refl _ _⟩⟩
theorem fn_quote (w : World) : FnIs w (.func (.func 118) #[] #[]) quoteB := ⟨_, _, rfl, (fun args W => by simp [go_sem]), fun s W _ => (quote_walk s W).mono fun e W' ⟨h1, h2⟩ => ⟨h1, by subst h2; exact Below.refl _ _⟩⟩
set_option maxRecDepth 100000 in
theorem is_walk (want : Sp.Str) (w : World) : Calls Tryz.prog 112 #[.string ⟨want.toArray⟩] w fun e w' => ∃ v, e = .returned v ∧ FnIs w' v (fun s => s == want) ∧ Below w.heap.size w w' := by
  have hb := alloc_below w (Obj.cells #[.string ⟨want.toArray⟩] 9)
  have hc := (cells_of_row (row_new w (Obj.cells #[.string ⟨want.toArray⟩] 9))).1 0
  have HB := Lib.hid hb
  have HC := Lib.hid hc
  clear hb hc
  go_enter Tryz.func112, Tryz.ntmps112
  go_wp2_with fail
  go_ret
  refine ⟨_, rfl, ⟨_, _, rfl, (fun args W => by simp [go_sem]), fun s W hW => ?_⟩, HB.out⟩
  have hc := cell_later hW HC.out
  have htl : (⟨want.toArray⟩ : ByteArray).toList = want := toBl want
  clear hW HB HC
  show Calls Tryz.prog 113 _ W fun e W' => e = .returned (.bool (s.toList == want)) ∧ Below W.heap.size W W'
  rw [← htl]
  clear htl
  generalize (⟨want.toArray⟩ : ByteArray) = wb at *
  cases h : s.toList == wb.toList
  · go_enter Tryz.func113, Tryz.ntmps113
    go_wp2_with fail
    go_ret
    exact ⟨rfl, Below.refl _ _⟩
  · go_enter Tryz.func113, Tryz.ntmps113
    go_wp2_with fail
    go_ret
    exact ⟨rfl, Below.refl _ _⟩
set_option maxRecDepth 100000 in
theorem or2_walk (f g : Value) (P Q : Sp.Str → Bool) (w : World) (hf : FnIs w f P) (hg : FnIs w g Q) : Calls Tryz.prog 114 #[f, g] w fun e w' => ∃ v, e = .returned v ∧ FnIs w' v (fun s => P s || Q s) ∧ Below w.heap.size w w' := by
  have hb1 := alloc_below w (Obj.cells #[f] 90)
  have hc1 := (cells_of_row (row_new w (Obj.cells #[f] 90))).1 0
  have hb2 := alloc_below (w.alloc (Obj.cells #[f] 90)) (Obj.cells #[g] 90)
  have hc2 := (cells_of_row (row_new (w.alloc (Obj.cells #[f] 90)) (Obj.cells #[g] 90))).1 0
  rw [size_new] at hc2
  have HB := Lib.hid (hb1.trans (hb2.mono hb1.size))
  have HC1 := Lib.hid (cell_later hb2 hc1)
  have HC2 := Lib.hid hc2
  have HF := Lib.hid hf
  have HG := Lib.hid hg
  obtain ⟨ff, fc, rfl, hgf, _⟩ := hf
  obtain ⟨gf, gc, rfl, hgg, _⟩ := hg
  clear hb1 hb2 hc1 hc2
  go_enter Tryz.func114, Tryz.ntmps114
  go_wp2_with fail
  go_ret
  refine ⟨_, rfl, ⟨_, _, rfl, (fun args W => by simp [go_sem]), fun s W hW => ?_⟩, HB.out⟩
  have hc1 := cell_later hW HC1.out
  have hc2 := cell_later hW HC2.out
  have hbw := HB.out.trans (hW.mono HB.out.size)
  obtain ⟨_, _, e1, _, hF⟩ := HF.out
  obtain ⟨_, _, e2, _, hG⟩ := HG.out
  cases e1
  cases e2
  have HFs := Lib.hid (hF s W hbw)
  have HGs := Lib.hid (fun W' (hb' : Below W.heap.size W W') => hG s W' (hbw.trans (hb'.mono hbw.size)))
  clear hW HB HC1 HC2 HF HG hF hG hbw
  show Calls Tryz.prog 115 _ W fun e W' => e = .returned (.bool (P s.toList || Q s.toList)) ∧ Below W.heap.size W W'
  cases hP : P s.toList
  · rw [hP] at HFs
    go_enter Tryz.func115, Tryz.ntmps115
    go_wp2_with fail
    refine HFs.out.mono ?_
    rintro e W1 ⟨rfl, hb1⟩
    have hc3 := cell_later hb1 hc2
    go_wp2_with fail
    refine (HGs.out W1 hb1).mono ?_
    rintro e W2 ⟨rfl, hb2⟩
    go_wp2_with fail
    go_ret
    exact ⟨rfl, hb1.trans (hb2.mono hb1.size)⟩
  · rw [hP] at HFs
    go_enter Tryz.func115, Tryz.ntmps115
    go_wp2_with fail
    refine HFs.out.mono ?_
    rintro e W1 ⟨rfl, hb1⟩
    go_wp2_with fail
    go_ret
    exact ⟨rfl, hb1⟩
end Go.Proofs.YtkgomgfhfoomhaaGreatDoor
