/- Walks of the functions that ItemsNobody reaches, at a nil object or one that no call made. -/
import Derived.Test.YtimbppalbgjnkaaDoorProg
import Derived.WalkKit
import Derived.RegionTactic
import Derived.Deep.QuietTactic
import Derived.BigQuiet
import Derived.LoopTactic
import Derived.Outline
import Derived.Below
import Derived.Lib.Hide
import Derived.WalkLawsBesides
import Derived.WalkSpells
import Derived.KernelRfl
import Derived.Handy
namespace Go.Proofs.YtimbppalbgjnkaaDoor
open Go.RowKit

def TxNone (w : World) (p : Option Addr) : Prop := p = none ∨ ∃ b, p = some ⟨b, 0, none⟩ ∧ w.cell? ⟨b, 0, none⟩ = some (.bool false)
theorem TxNone.below {w w' : World} {p : Option Addr} (h : TxNone w p) (hb : Below w.heap.size w w') : TxNone w' p := by
  rcases h with rfl | ⟨b, rfl, hc⟩
  · exact .inl rfl
  · exact .inr ⟨b, rfl, cell_later hb hc⟩

theorem txnone (w : World) (p : Option Addr) (h : TxNone w p) : Calls Tryd.prog 18 #[.pointer p] w fun e w' => e = .returned (.bool true) ∧ w = w' := by
  rcases h with rfl | ⟨b, rfl, hc⟩
  · go_enter Tryd.func18, Tryd.ntmps18
    go_wp2
    go_ret
    exact ⟨rfl, rfl⟩
  · go_enter Tryd.func18, Tryd.ntmps18
    go_wp2
    go_ret
    exact ⟨rfl, rfl⟩

set_option maxRecDepth 100000 in
theorem span_none (w : World) (p : Option Addr) (h : TxNone w p) (f t : Int) : Calls Tryd.prog 6 #[.pointer p, .int .i64 f, .int .i64 t] w fun e w' => e = .returned (.agg #[.int .i64 0, .int .i64 0]) ∧ Below w.heap.size w w' := by
  go_enter Tryd.func6, Tryd.ntmps6
  go_wp2_with (go_at_call 18; refine (txnone _ _ (h.below ((Below.refl _ _).alloc (Nat.le_refl _) _))).mono ?_; rintro e w' ⟨rfl, rfl⟩)
  refine bodyPost_ret (v := .agg #[.int .i64 0, .int .i64 0]) (by simp [results, Tryd.results6, go_sem]) rfl ⟨rfl, (Below.refl _ _).alloc (Nat.le_refl _) _⟩

theorem after_none (w : World) (p : Option Addr) (h : TxNone w p) (f : Int) : Calls Tryd.prog 7 #[.pointer p, .int .i64 f] w fun e w' => e = .returned (.int .i64 0) ∧ w = w' := by
  go_enter Tryd.func7, Tryd.ntmps7
  go_wp2_with (go_at_call 18; refine (txnone _ _ h).mono ?_; rintro e w' ⟨rfl, rfl⟩)
  go_ret
  exact ⟨rfl, rfl⟩
theorem items_none (w : World) (p : Option Addr) (h : TxNone w p) : Calls Tryd.prog 8 #[.pointer p] w fun e w' => e = .returned (.slice none 0 0) ∧ w = w' := by
  go_enter Tryd.func8, Tryd.ntmps8
  go_wp2_with (go_at_call 18; refine (txnone _ _ h).mono ?_; rintro e w' ⟨rfl, rfl⟩)
  go_ret
  exact ⟨rfl, rfl⟩
theorem runes_none (w : World) (p : Option Addr) (h : TxNone w p) : Calls Tryd.prog 9 #[.pointer p] w fun e w' => e = .returned (.slice none 0 0) ∧ w = w' := by
  go_enter Tryd.func9, Tryd.ntmps9
  go_wp2_with (go_at_call 18; refine (txnone _ _ h).mono ?_; rintro e w' ⟨rfl, rfl⟩)
  go_ret
  exact ⟨rfl, rfl⟩
theorem bytes_none (w : World) (p : Option Addr) (h : TxNone w p) : Calls Tryd.prog 10 #[.pointer p] w fun e w' => e = .returned (.slice none 0 0) ∧ w = w' := by
  go_enter Tryd.func10, Tryd.ntmps10
  go_wp2_with (go_at_call 18; refine (txnone _ _ h).mono ?_; rintro e w' ⟨rfl, rfl⟩)
  go_ret
  exact ⟨rfl, rfl⟩



def TbNone (w : World) (p : Option Addr) : Prop := p = none ∨ ∃ b, p = some ⟨b, 0, none⟩ ∧ w.cell? ⟨b, 7, none⟩ = some (.map none)
set_option maxRecDepth 100000 in
theorem tbnone (w : World) (p : Option Addr) (h : TbNone w p) : Calls Tryd.prog 43 #[.pointer p] w fun e w' => e = .returned (.bool true) ∧ w = w' := by
  rcases h with rfl | ⟨b, rfl, hc⟩
  · go_enter Tryd.func43, Tryd.ntmps43
    go_wp2
    go_ret
    exact ⟨rfl, rfl⟩
  · have hm := fun (w : World) (r : Option Nat) => run_eql_map_nil (P := Tryd.prog) w 42 3 25 r Tryd.underlying42
    go_enter Tryd.func43, Tryd.ntmps43
    go_wp2
    go_ret
    exact ⟨rfl, rfl⟩
theorem category_none (w : World) (p : Option Addr) (h : TbNone w p) (r : Int) : Calls Tryd.prog 25 #[.pointer p, .int .i64 r] w fun e w' => e = .returned (.string ⟨#[]⟩) ∧ w = w' := by
  go_enter Tryd.func25, Tryd.ntmps25
  go_wp2_with (go_at_call 43; refine (tbnone _ _ h).mono ?_; rintro e w' ⟨rfl, rfl⟩)
  go_ret
  exact ⟨rfl, rfl⟩
theorem new_none (w : World) (p : Option Addr) (h : TbNone w p) (bs : Value) (c : Bool) : Calls Tryd.prog 11 #[.pointer p, bs, .bool c] w fun e w' => e = .returned (.tuple #[.pointer none, .int .i64 2]) ∧ w = w' := by
  go_enter Tryd.func11, Tryd.ntmps11
  go_wp2_with (go_at_call 25; refine (category_none _ _ h _).mono ?_; rintro e w' ⟨rfl, rfl⟩)
  go_ret2
  exact ⟨rfl, rfl⟩
set_option maxRecDepth 100000 in
theorem itemsNobody_walk (bs : Value) (f t : Int) (w : World) : Calls Tryd.prog 3 #[bs, .int .i64 f, .int .i64 t] w fun e w' => e = .returned (.bool true) ∧ Below w.heap.size w w' := by
  go_enter Tryd.func3, Tryd.ntmps3
  go_wp2
  obtain ⟨W0, hW0⟩ : ∃ W0, W0 = (w.alloc (Obj.cells #[Value.bool false, Value.slice none 0 0, Value.slice none 0 0, Value.slice none 0 0] 27)).alloc (Obj.cells #[Value.pointer none, Value.pointer (some { block := w.heap.size, off := 0 })] 23) := ⟨_, rfl⟩
  have hB0 : Below w.heap.size w W0 := by subst hW0; exact ((Below.refl _ _).alloc (Nat.le_refl _) _).alloc (by simp) _
  have hs0 : W0.heap.size = w.heap.size + 2 := by subst hW0; simp
  have c0 : W0.cell? ⟨w.heap.size + 1, 0, none⟩ = some (.pointer none) := by subst hW0; go_simp
  have c1 : W0.cell? ⟨w.heap.size + 1, 1, none⟩ = some (.pointer (some ⟨w.heap.size, 0, none⟩)) := by subst hW0; go_simp
  have c2 : W0.cell? ⟨w.heap.size, 0, none⟩ = some (.bool false) := by subst hW0; go_simp
  rw [← hW0]
  clear hW0
  go_loopw [8, 17] (fun _ i wr => ∃ k : Nat, k ≤ 2 ∧ i = .int .i64 k ∧ Below (w.heap.size + 2) W0 wr) (fun _ i _ => 2 - (intOf i).toNat)
  case atStart => exact ⟨0, by omega, rfl, Below.refl _ _⟩
  case round =>
    obtain ⟨k, hk, rfl, hbel⟩ := hrel
    have d0 : wr.cell? ⟨w.heap.size + 1, 0, none⟩ = some (.pointer none) := (hbel.cell (p := ⟨_, _, _⟩) (by simp)).trans c0
    have d1 : wr.cell? ⟨w.heap.size + 1, 1, none⟩ = some (.pointer (some ⟨w.heap.size, 0, none⟩)) := (hbel.cell (p := ⟨_, _, _⟩) (by simp)).trans c1
    have d2 : wr.cell? ⟨w.heap.size, 0, none⟩ = some (.bool false) := (hbel.cell (p := ⟨_, _, _⟩) (by simp)).trans c2
    have hsz : w.heap.size + 2 ≤ wr.heap.size := by have := hbel.size; omega
    by_cases h2 : 2 ≤ k
    · have hBr : Below w.heap.size w wr := hB0.trans (hbel.mono (by omega))
      clear c0 c1 c2 d0 d1 d2 hbel
      go_wp2
      obtain ⟨W1, hW1⟩ : ∃ W1, W1 = (wr.alloc (Obj.cells #[Value.pointer none, Value.pointer none, Value.pointer none, Value.pointer none, Value.pointer none, Value.slice none 0 0, Value.slice none 0 0, Value.map none, Value.map none, Value.map none] 45)).alloc (Obj.cells #[Value.pointer none, Value.pointer (some { block := wr.heap.size, off := 0 })] 36) := ⟨_, rfl⟩
      have hB1 : Below w.heap.size w W1 := by subst hW1; exact (hBr.alloc (by omega) _).alloc (by simp; omega) _
      have c0 : W1.cell? ⟨wr.heap.size + 1, 0, none⟩ = some (.pointer none) := by subst hW1; go_simp
      have c1 : W1.cell? ⟨wr.heap.size + 1, 1, none⟩ = some (.pointer (some ⟨wr.heap.size, 0, none⟩)) := by subst hW1; go_simp
      have c2 : W1.cell? ⟨wr.heap.size, 7, none⟩ = some (.map none) := by subst hW1; go_simp
      rw [← hW1]
      clear hW1
      go_loop [10, 52] (fun _ i => ∃ k : Nat, k ≤ 2 ∧ i = .int .i64 k) (fun _ i => 2 - (intOf i).toNat)
      case atStart => exact ⟨0, by omega, rfl⟩
      case round =>
        obtain ⟨k, hk, rfl⟩ := hrel
        by_cases h2 : 2 ≤ k
        · clear c0 c1 c2
          go_wp2
          go_ret
          exact ⟨rfl, hB1⟩
        · have hx : ∃ p, W1.cell? ⟨wr.heap.size + 1, k, none⟩ = some (.pointer p) ∧ TbNone W1 p := by
            rcases (by omega : k = 0 ∨ k = 1) with rfl | rfl
            · exact ⟨_, c0, .inl rfl⟩
            · exact ⟨_, c1, .inr ⟨_, rfl, c2⟩⟩
          obtain ⟨p, hp, hn⟩ := hx
          have hlt : k < 2 := by omega
          clear c0 c1 c2 h2
          go_wp2_with fail
          refine (new_none _ _ hn _ _).mono ?_
          rintro e w' ⟨rfl, rfl⟩
          go_wp2_with fail
          go_round
          case rel => exact ⟨k + 1, by omega, by go_num⟩
          case measure => simp [intOf]; omega
    · have hx : ∃ p, wr.cell? ⟨w.heap.size + 1, k, none⟩ = some (.pointer p) ∧ TxNone wr p := by
        rcases (by omega : k = 0 ∨ k = 1) with rfl | rfl
        · exact ⟨_, d0, .inl rfl⟩
        · exact ⟨_, d1, .inr ⟨_, rfl, d2⟩⟩
      obtain ⟨p, hp, hn⟩ := hx
      have hlt : k < 2 := by omega
      clear c0 c1 c2 d0 d1 d2 h2
      go_wp2_with fail
      refine (span_none _ _ hn _ _).mono ?_
      rintro e w' ⟨rfl, hb1⟩
      replace hn := hn.below hb1
      go_wp2_with fail
      refine (after_none _ _ hn _).mono ?_
      rintro e w' ⟨rfl, rfl⟩
      go_wp2_with fail
      refine (items_none _ _ hn).mono ?_
      rintro e w' ⟨rfl, rfl⟩
      go_wp2_with fail
      refine (runes_none _ _ hn).mono ?_
      rintro e w' ⟨rfl, rfl⟩
      go_wp2_with fail
      refine (bytes_none _ _ hn).mono ?_
      rintro e w' ⟨rfl, rfl⟩
      have hbel' := hbel.trans (hb1.mono hsz)
      clear hbel hB0 hs0 hb1 hn
      go_wp2_with fail
      go_roundw
      case rel => exact ⟨k + 1, by omega, by go_num, hbel'⟩
      case measure => simp [intOf]; omega
end Go.Proofs.YtimbppalbgjnkaaDoor
