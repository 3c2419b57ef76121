/- Ints, Acc2W, Acc3W: in one text. -/
import Derived.Test.YthoegenipbohmaaGreatDoorAccM
import Derived.Test.YthoegenipbohmaaGreatDoorPur
namespace Go.Proofs.YthoegenipbohmaaGreatDoor
open Go.RowKit
set_option linter.unusedVariables false
set_option linter.unusedSimpArgs false

theorem clone_walk {w : World} {B : Nat} {v : Value} {l : List Int} (h : IntsAt w B v l) (hl : l.length ≤ 1000000000) : Calls Tryz.prog 99 #[v] w (CloneSaid l w) := by
  rcases h.2 with ⟨rfl, h0⟩ | ⟨g, cap, cur, rfl, hb, hg, hnc, hcm, _⟩
  · obtain rfl := List.length_eq_zero_iff.1 h0
    refine (Tryz.slices_Clone_int_nil 0 0 w).mono ?_
    rintro e w' ⟨rfl, rfl⟩
    exact ⟨_, rfl, World.ownsRow_nil _ _ _ _, Below.refl _ _⟩
  · rcases Nat.eq_zero_or_pos l.length with h0 | h0
    · obtain rfl := List.length_eq_zero_iff.1 h0
      refine (Tryz.slices_Clone_int_zero ⟨g, 0, none⟩ cap w).mono ?_
      rintro e w' ⟨v', rfl, ho, _, hb⟩
      exact ⟨_, rfl, ho, hb⟩
    · refine (Tryz.slices_Clone_int g 0 l.length cap l w (Nat.le_refl _) (by omega) (fun j hj => by rw [Nat.zero_add]; exact own_cell h j _ (intz_get l j hj))).mono ?_
      rintro e w' ⟨v', rfl, ho, _, hb⟩
      rw [List.take_length] at ho
      exact ⟨_, rfl, ho, hb⟩
theorem equal_walk {w : World} {B B' : Nat} {v u : Value} {l m : List Int} (h : IntsAt w B v l) (h' : IntsAt w B' u m) : Calls Tryz.prog 23 #[v, u] w fun e w' => e = .returned (.bool (l == m)) ∧ Below w.heap.size w w' := by
  have hl := own_len h
  have hm := own_len h'
  unfold maxLen at hl hm
  by_cases hne : l.length = m.length
  · rcases Nat.eq_zero_or_pos l.length with h0 | h0
    · obtain ⟨A, c, rfl⟩ := own_slice h
      obtain ⟨A', c', rfl⟩ := own_slice h'
      have hm0 : m.length = 0 := by omega
      obtain rfl := List.length_eq_zero_iff.1 h0
      obtain rfl := List.length_eq_zero_iff.1 hm0
      refine (Tryz.slices_Equal_int_empty A A' c 0 c' w (by omega)).mono ?_
      rintro e w' ⟨rfl, rfl⟩
      exact ⟨rfl, Below.refl _ _⟩
    · obtain ⟨g, c, rfl, _⟩ := own_form h h0
      obtain ⟨g', c', rfl, _⟩ := own_form h' (by omega)
      refine (Tryz.slices_Equal_int g 0 l.length c g' 0 m.length c' l m w (Nat.le_refl _) (Nat.le_refl _) (by omega) (by omega) (fun j hj => by rw [Nat.zero_add]; exact own_cell h j _ (intz_get l j hj)) (fun j hj => by rw [Nat.zero_add]; exact own_cell h' j _ (intz_get m j hj))).mono ?_
      rintro e w' ⟨rfl, q, rfl⟩
      rw [List.take_length, List.take_length]
      exact ⟨rfl, below_drewN _ _⟩
  · obtain ⟨A, c, rfl⟩ := own_slice h
    obtain ⟨A', c', rfl⟩ := own_slice h'
    refine (Tryz.slices_Equal_int_lens A A' l.length c m.length c' w hne).mono ?_
    rintro e w' ⟨rfl, rfl⟩
    have : (l == m) = false := beq_eq_false_iff_ne.2 (fun e => hne (by rw [e]))
    rw [this]
    exact ⟨rfl, Below.refl _ _⟩
def intEnc (n : Int) : List Value := [.int .i64 n]
theorem intEnc_len (n : Int) : (intEnc n).length = 1 := rfl
theorem intEnc_one (n : Int) : ∀ v ∈ intEnc n, v.oneCell' = true := by
  intro v hv
  simp [intEnc] at hv
  subst hv
  rfl
theorem intz_flat (l : List Int) : intz l = l.flatMap intEnc := by
  unfold intz
  induction l with
  | nil => rfl
  | cons a l ih => rw [List.map_cons, List.flatMap_cons, ih]; rfl
theorem put_int (d : Array Int) : Sort.putCells (Value.int .i64) 0 d = Sort.putCells id 0 (Sort.flatK intEnc 1 d) := by
  funext c
  unfold Sort.putCells
  congr 1
  funext k x
  have hs : (Sort.flatK intEnc 1 d).size = d.size := by simp
  rw [hs]
  by_cases h : 0 ≤ k ∧ k < 0 + d.size
  · rw [if_pos h, if_pos h]
    have := Sort.get_flatK intEnc 1 d (k - 0) (by omega)
    show _ = (Sort.flatK intEnc 1 d)[k - 0]!
    rw [this, Nat.div_one, Nat.mod_one]
    rfl
  · rw [if_neg h, if_neg h]
theorem reverseI_walk {w : World} {base g c : Nat} {l : List Int} (h : IntsAt w base (.slice (some ⟨g, 0, none⟩) l.length c) l) :
    Calls Tryz.prog 77 #[.slice (some ⟨g, 0, none⟩) l.length c] w fun e w' => e = .returned (.tuple #[]) ∧ IntsAt w' base (.slice (some ⟨g, 0, none⟩) l.length c) l.reverse ∧ w.grownBy w' (some g) := by
  have hlen := own_len h
  unfold maxLen at hlen
  have h' : w.ownsRow base 3 1 (.slice (some ⟨g, 0, none⟩) l.length c) l.length (l.toArray.toList.flatMap intEnc) := by rw [← intz_flat]; exact h
  have hH := own_holds intEnc_len (d := l.toArray) h' (by simp)
  have hH2 : Sort.Holds (Value.int .i64) w g 0 l.toArray := by
    intro j hj
    have := hH j (by simpa using hj)
    have e := Sort.get_flatK intEnc 1 l.toArray j (by simpa using hj)
    rw [e, Nat.div_one, Nat.mod_one] at this
    exact this
  refine Calls.mono (Tryz.slices_Reverse_int g 0 c l w hH2 (by omega)) ?_
  rintro e w' ⟨rfl, n, rfl⟩
  obtain ⟨r1, r2⟩ := own_turned intEnc_len (d := l.toArray) (d' := l.reverse.toArray) h' (by simp) (by simp) n
  have e1 : Sort.putRow (Value.int .i64) (Sort.ahead w n) g 0 l.reverse.toArray = Sort.putRowK intEnc 1 (Sort.ahead w n) g 0 l.reverse.toArray := by
    unfold Sort.putRow Sort.putRowK
    rw [put_int]
    rfl
  rw [e1]
  rw [← intz_flat] at r1
  refine ⟨rfl, ?_, r2⟩
  unfold IntsAt
  rw [List.length_reverse]
  exact r1
end Go.Proofs.YthoegenipbohmaaGreatDoor

namespace Go.Proofs.YthoegenipbohmaaGreatDoor
open Go.RowKit
set_option linter.unusedVariables false
set_option linter.unusedSimpArgs false

theorem ints_intz (l : List Nat) : ints l = intz (l.map fun n : Nat => (n : Int)) := by
  unfold ints intz
  rw [List.map_map]
  rfl
def partz (Φ : Files) (r : Int) : List Int := ((partsOf Φ.dec r).getD []).map fun n : Nat => (n : Int)
theorem pts_len (s : Sp.Str) : (Sp.pts s).length ≤ s.length + 1 := by
  unfold Sp.pts
  exact Nat.le_trans (List.length_filterMap_le _ _) (fieldsGo_len s [])
section
variable {w : World} {m : Nat} {Φ : Files}
theorem parts_walk (h : TabAt w m Φ) (hok : FilesOk Φ) (r : Int) (hr : (Lit.int .i64 r).wf = true) : Calls Tryz.prog 76 #[.pointer (some ⟨m + 3, 0, none⟩), .int .i64 r] w (CloneSaid (partz Φ r) w) := by
  have hn := none_walk h
  obtain ⟨⟨p0, p1, p2, p3, p4, vv, kv, hb, hf⟩, ⟨c, hc, hp⟩, _⟩ := h
  have hc7 : w.cell? ⟨m + 3, 7, none⟩ = some (.map (some m)) := hb.cell 7
  obtain ⟨v, hlook, hv⟩ := hp.look r hr false
  simp only [Bool.false_eq_true, if_false] at hlook
  have hcl : Calls Tryz.prog 99 #[v] w (CloneSaid (partz Φ r) w) := by
    unfold partz
    cases hF : partsOf Φ.dec r with
    | none =>
      rw [hF] at hv
      simp only at hv
      subst hv
      exact clone_walk (B := 0) (l := []) (World.ownsRow_nil _ _ _ _) (by decide)
    | some l =>
      rw [hF] at hv
      simp only at hv
      have hlen : l.length ≤ 1000000000 := by
        obtain ⟨x, hx, _, _, rfl⟩ := partsOf_some Φ.dec Φ.dec (fun _ => none) (fun _ h => h) (fun _ _ h => by cases h) r l hF
        have h1 := pts_len (fld0 x)
        have h2 := (hok.dec x hx).len
        omega
      rw [ints_intz] at hv
      exact clone_walk (l := l.map fun n : Nat => (n : Int)) (by unfold IntsAt; rw [List.length_map]; exact hv) (by rw [List.length_map]; exact hlen)
  have HN := Lib.hid hn
  have HC := Lib.hid hcl
  clear hn hcl hb hf hp hv
  go_enter Tryz.func76, Tryz.ntmps76
  go_wp2_with fail
  refine HN.out.mono ?_
  rintro e w' ⟨rfl, rfl⟩
  go_wp2_with fail
  refine HC.out.mono ?_
  rintro e w1 ⟨v1, rfl, hs⟩
  have HS := Lib.hid hs
  clear hs HC HN
  go_wp2_with fail
  go_ret
  exact ⟨_, rfl, HS.out⟩
end
end Go.Proofs.YthoegenipbohmaaGreatDoor

namespace Go.Proofs.YthoegenipbohmaaGreatDoor
open Go.RowKit
set_option linter.unusedVariables false
set_option linter.unusedSimpArgs false

def foldz (Φ : Files) (full : Bool) (r : Int) : List Int := match foldsOf full Φ.fol r with | some l => l.map (fun n : Nat => (n : Int)) | none => [r]
theorem bump_len (l : List Nat) (d : Nat) : (bump l d).length = l.length := by cases l <;> rfl
section
variable {w : World} {m : Nat} {Φ : Files}
theorem folds_len (hok : FilesOk Φ) {full : Bool} {r : Int} {l : List Nat} (h : foldsOf full Φ.fol r = some l) : l.length ≤ 1000000000 := by
  obtain ⟨x, hx, _, _, _, rfl⟩ := foldsOf_some full Φ.fol Φ.fol (fun _ => none) (fun _ h => h) (fun _ _ h => by cases h) r l h
  have h1 := pts_len (fld1 x)
  have h2 := (hok.fol x hx).len
  rw [bump_len]
  omega
/-- What a code point folds to, simply. -/
def simpleOf (Φ : Files) (r : Int) : Int := (foldz Φ false r).headD 0
end
end Go.Proofs.YthoegenipbohmaaGreatDoor
