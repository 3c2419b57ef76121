/- props: none, Category, of tables that Load made. -/
import Derived.Test.YtpmbebofinlmmaaGreatDoorLod
import Derived.Test.YtpmbebofinlmmaaGreatDoorTrie
import Derived.Test.YtpmbebofinlmmaaGreatDoorIntsA
namespace Go.Proofs.YtpmbebofinlmmaaGreatDoor
open Go.RowKit
set_option linter.unusedVariables false
set_option linter.unusedSimpArgs false

theorem own_fresh1 (w : World) (e : TypeId) (v : Value) : (w.alloc (.cells #[v] e)).ownsRow w.heap.size e 1 (.slice (some ⟨w.heap.size, 0, none⟩) 1 1) 1 [v] :=
  ⟨rfl, .inr ⟨w.heap.size, 1, #[v], rfl, Nat.le_refl _, row_new _ _, by omega, by unfold maxLen; omega, rfl, rfl⟩⟩
/-- What the tables say of code points. -/
def txOf (rs : List Rec) (r : Int) (other : Sp.Str) : Sp.Str := (trieGet (valsOf rs) (entCur (entsOf rs).reverse) r).getD other
section
variable {w : World} {m : Nat} {Φ : Files}
theorem none_walk (h : TabAt w m Φ) : Calls Tryz.prog 64 #[.pointer (some ⟨m + 3, 0, none⟩)] w fun e w' => e = .returned (.bool false) ∧ w = w' := by
  obtain ⟨⟨p0, p1, p2, p3, p4, vv, kv, hb, hf⟩, _⟩ := h
  have hc : w.cell? ⟨m + 3, 7, none⟩ = some (.map (some m)) := hb.cell 7
  have hm := fun (w : World) (r : Option Nat) => run_eql_map_nil (P := Tryz.prog) w 67 3 42 r Tryz.underlying67
  clear hb hf
  go_enter Tryz.func64, Tryz.ntmps64
  go_wp2
  go_ret
  exact ⟨rfl, rfl⟩
theorem category_walk (h : TabAt w m Φ) (hok : FilesOk Φ) (r : Int) : Calls Tryz.prog 18 #[.pointer (some ⟨m + 3, 0, none⟩), .int .i64 r] w fun e w' => e = .returned (.string ⟨(txOf Φ.cat r [67, 110]).toArray⟩) ∧ Below w.heap.size w w' := by
  have hn := none_walk h
  obtain ⟨⟨p0, p1, p2, p3, p4, vv, kv, hb, hf⟩, _⟩ := h
  have hc : w.cell? ⟨m + 3, 0, none⟩ = some (.pointer (some ⟨p0, 0, none⟩)) := hb.cell 0
  have ho := or_walk hf.t0 r (by have := valsOf_len Φ.cat; have := hok.cat.le; omega) [67, 110]
  have HN := Lib.hid hn
  have HO := Lib.hid ho
  clear hn ho hb hf
  go_enter Tryz.func18, Tryz.ntmps18
  go_wp2_with fail
  refine HN.out.mono ?_
  rintro e w' ⟨rfl, rfl⟩
  go_wp2_with fail
  refine HO.out.mono ?_
  rintro e w1 ⟨rfl, hb1⟩
  have HB1 := Lib.hid hb1
  clear hb1 HO HN
  go_wp2_with fail
  go_ret
  exact ⟨rfl, HB1.out⟩
end
end Go.Proofs.YtpmbebofinlmmaaGreatDoor
