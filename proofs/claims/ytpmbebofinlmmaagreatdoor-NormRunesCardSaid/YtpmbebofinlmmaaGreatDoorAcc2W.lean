/- props: Parts. -/
import Derived.Test.YtpmbebofinlmmaaGreatDoorAccW
import Derived.Test.YtpmbebofinlmmaaGreatDoorPur
import Derived.Test.YtpmbebofinlmmaaGreatDoorInts
namespace Go.Proofs.YtpmbebofinlmmaaGreatDoor
open Go.RowKit
set_option linter.unusedVariables false
set_option linter.unusedSimpArgs false

theorem ints_intz (l : List Nat) : ints l = intz (l.map fun n : Nat => (n : Int)) := by
  unfold ints intz
  rw [List.map_map]
  rfl
def partz (Φ : Files) (r : Int) : List Int := ((partsOf Φ.dec r).getD []).map fun n : Nat => (n : Int)
theorem pts_len (s : Sp.Str) : (Sp.pts s).length ≤ s.length + 1 := by
  unfold Sp.pts
  exact Nat.le_trans (List.length_filterMap_le _ _) (fieldsGo_len s [])
section
variable {w : World} {m : Nat} {Φ : Files}
theorem parts_walk (h : TabAt w m Φ) (hok : FilesOk Φ) (r : Int) (hr : (Lit.int .i64 r).wf = true) : Calls Tryz.prog 39 #[.pointer (some ⟨m + 3, 0, none⟩), .int .i64 r] w (CloneSaid (partz Φ r) w) := by
  have hn := none_walk h
  obtain ⟨⟨p0, p1, p2, p3, p4, vv, kv, hb, hf⟩, ⟨c, hc, hp⟩, _⟩ := h
  have hc7 : w.cell? ⟨m + 3, 7, none⟩ = some (.map (some m)) := hb.cell 7
  obtain ⟨v, hlook, hv⟩ := hp.look r hr false
  simp only [Bool.false_eq_true, if_false] at hlook
  have hcl : Calls Tryz.prog 49 #[v] w (CloneSaid (partz Φ r) w) := by
    unfold partz
    cases hF : partsOf Φ.dec r with
    | none =>
      rw [hF] at hv
      simp only at hv
      subst hv
      exact clone_walk (B := 0) (l := []) (World.ownsRow_nil _ _ _ _) (by decide)
    | some l =>
      rw [hF] at hv
      simp only at hv
      have hlen : l.length ≤ 1000000000 := by
        obtain ⟨x, hx, _, _, rfl⟩ := partsOf_some Φ.dec Φ.dec (fun _ => none) (fun _ h => h) (fun _ _ h => by cases h) r l hF
        have h1 := pts_len (fld0 x)
        have h2 := (hok.dec x hx).len
        omega
      rw [ints_intz] at hv
      exact clone_walk (l := l.map fun n : Nat => (n : Int)) (by unfold IntsAt; rw [List.length_map]; exact hv) (by rw [List.length_map]; exact hlen)
  have HN := Lib.hid hn
  have HC := Lib.hid hcl
  clear hn hcl hb hf hp hv
  go_enter Tryz.func39, Tryz.ntmps39
  go_wp2_with fail
  refine HN.out.mono ?_
  rintro e w' ⟨rfl, rfl⟩
  go_wp2_with fail
  refine HC.out.mono ?_
  rintro e w1 ⟨v1, rfl, hs⟩
  have HS := Lib.hid hs
  clear hs HC HN
  go_wp2_with fail
  go_ret
  exact ⟨_, rfl, HS.out⟩
end
end Go.Proofs.YtpmbebofinlmmaaGreatDoor
