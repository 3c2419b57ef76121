/- Ints, Acc2W, Acc3W: in one text. -/
import Derived.Test.YtchkckfadennhaaGreatDoorAccM
import Derived.Test.YtchkckfadennhaaGreatDoorPur
namespace Go.Proofs.YtchkckfadennhaaGreatDoor
open Go.RowKit
set_option linter.unusedVariables false
set_option linter.unusedSimpArgs false

theorem clone_walk {w : World} {B : Nat} {v : Value} {l : List Int} (h : IntsAt w B v l) (hl : l.length ≤ 1000000000) : Calls Tryz.prog 70 #[v] w (CloneSaid l w) := by
  rcases h.2 with ⟨rfl, h0⟩ | ⟨g, cap, cur, rfl, hb, hg, hnc, hcm, _⟩
  · obtain rfl := List.length_eq_zero_iff.1 h0
    refine (Tryz.slices_Clone_int_nil 0 0 w).mono ?_
    rintro e w' ⟨rfl, rfl⟩
    exact ⟨_, rfl, World.ownsRow_nil _ _ _ _, Below.refl _ _⟩
  · rcases Nat.eq_zero_or_pos l.length with h0 | h0
    · obtain rfl := List.length_eq_zero_iff.1 h0
      refine (Tryz.slices_Clone_int_zero ⟨g, 0, none⟩ cap w).mono ?_
      rintro e w' ⟨v', rfl, ho, _, hb⟩
      exact ⟨_, rfl, ho, hb⟩
    · refine (Tryz.slices_Clone_int g 0 l.length cap l w (Nat.le_refl _) (by omega) (fun j hj => by rw [Nat.zero_add]; exact own_cell h j _ (intz_get l j hj))).mono ?_
      rintro e w' ⟨v', rfl, ho, _, hb⟩
      rw [List.take_length] at ho
      exact ⟨_, rfl, ho, hb⟩
theorem equal_walk {w : World} {B B' : Nat} {v u : Value} {l m : List Int} (h : IntsAt w B v l) (h' : IntsAt w B' u m) : Calls Tryz.prog 43 #[v, u] w fun e w' => e = .returned (.bool (l == m)) ∧ Below w.heap.size w w' := by
  have hl := own_len h
  have hm := own_len h'
  unfold maxLen at hl hm
  by_cases hne : l.length = m.length
  · rcases Nat.eq_zero_or_pos l.length with h0 | h0
    · obtain ⟨A, c, rfl⟩ := own_slice h
      obtain ⟨A', c', rfl⟩ := own_slice h'
      have hm0 : m.length = 0 := by omega
      obtain rfl := List.length_eq_zero_iff.1 h0
      obtain rfl := List.length_eq_zero_iff.1 hm0
      refine (Tryz.slices_Equal_int_empty A A' c 0 c' w (by omega)).mono ?_
      rintro e w' ⟨rfl, rfl⟩
      exact ⟨rfl, Below.refl _ _⟩
    · obtain ⟨g, c, rfl, _⟩ := own_form h h0
      obtain ⟨g', c', rfl, _⟩ := own_form h' (by omega)
      refine (Tryz.slices_Equal_int g 0 l.length c g' 0 m.length c' l m w (Nat.le_refl _) (Nat.le_refl _) (by omega) (by omega) (fun j hj => by rw [Nat.zero_add]; exact own_cell h j _ (intz_get l j hj)) (fun j hj => by rw [Nat.zero_add]; exact own_cell h' j _ (intz_get m j hj))).mono ?_
      rintro e w' ⟨rfl, q, rfl⟩
      rw [List.take_length, List.take_length]
      exact ⟨rfl, below_drewN _ _⟩
  · obtain ⟨A, c, rfl⟩ := own_slice h
    obtain ⟨A', c', rfl⟩ := own_slice h'
    refine (Tryz.slices_Equal_int_lens A A' l.length c m.length c' w hne).mono ?_
    rintro e w' ⟨rfl, rfl⟩
    have : (l == m) = false := beq_eq_false_iff_ne.2 (fun e => hne (by rw [e]))
    rw [this]
    exact ⟨rfl, Below.refl _ _⟩
def intEnc (n : Int) : List Value := [.int .i64 n]
theorem intEnc_len (n : Int) : (intEnc n).length = 1 := rfl
theorem intEnc_one (n : Int) : ∀ v ∈ intEnc n, v.oneCell' = true := by
  intro v hv
  simp [intEnc] at hv
  subst hv
  rfl
theorem intz_flat (l : List Int) : intz l = l.flatMap intEnc := by
  unfold intz
  induction l with
  | nil => rfl
  | cons a l ih => rw [List.map_cons, List.flatMap_cons, ih]; rfl
theorem put_int (d : Array Int) : Sort.putCells (Value.int .i64) 0 d = Sort.putCells id 0 (Sort.flatK intEnc 1 d) := by
  funext c
  unfold Sort.putCells
  congr 1
  funext k x
  have hs : (Sort.flatK intEnc 1 d).size = d.size := by simp
  rw [hs]
  by_cases h : 0 ≤ k ∧ k < 0 + d.size
  · rw [if_pos h, if_pos h]
    have := Sort.get_flatK intEnc 1 d (k - 0) (by omega)
    show _ = (Sort.flatK intEnc 1 d)[k - 0]!
    rw [this, Nat.div_one, Nat.mod_one]
    rfl
  · rw [if_neg h, if_neg h]
end Go.Proofs.YtchkckfadennhaaGreatDoor

namespace Go.Proofs.YtchkckfadennhaaGreatDoor
open Go.RowKit
set_option linter.unusedVariables false
set_option linter.unusedSimpArgs false

theorem ints_intz (l : List Nat) : ints l = intz (l.map fun n : Nat => (n : Int)) := by
  unfold ints intz
  rw [List.map_map]
  rfl
def partz (Φ : Files) (r : Int) : List Int := ((partsOf Φ.dec r).getD []).map fun n : Nat => (n : Int)
theorem pts_len (s : Sp.Str) : (Sp.pts s).length ≤ s.length + 1 := by
  unfold Sp.pts
  exact Nat.le_trans (List.length_filterMap_le _ _) (fieldsGo_len s [])
section
variable {w : World} {m : Nat} {Φ : Files}
end
end Go.Proofs.YtchkckfadennhaaGreatDoor

namespace Go.Proofs.YtchkckfadennhaaGreatDoor
open Go.RowKit
set_option linter.unusedVariables false
set_option linter.unusedSimpArgs false

def foldz (Φ : Files) (full : Bool) (r : Int) : List Int := match foldsOf full Φ.fol r with | some l => l.map (fun n : Nat => (n : Int)) | none => [r]
theorem bump_len (l : List Nat) (d : Nat) : (bump l d).length = l.length := by cases l <;> rfl
section
variable {w : World} {m : Nat} {Φ : Files}
theorem folds_len (hok : FilesOk Φ) {full : Bool} {r : Int} {l : List Nat} (h : foldsOf full Φ.fol r = some l) : l.length ≤ 1000000000 := by
  obtain ⟨x, hx, _, _, _, rfl⟩ := foldsOf_some full Φ.fol Φ.fol (fun _ => none) (fun _ h => h) (fun _ _ h => by cases h) r l h
  have h1 := pts_len (fld1 x)
  have h2 := (hok.fol x hx).len
  rw [bump_len]
  omega
set_option maxRecDepth 100000 in
theorem fold_walk (h : TabAt w m Φ) (hok : FilesOk Φ) (r : Int) (hr : (Lit.int .i64 r).wf = true) (full : Bool) : Calls Tryz.prog 44 #[.pointer (some ⟨m + 3, 0, none⟩), .int .i64 r, .bool full] w (CloneSaid (foldz Φ full r) w) := by
  have hn := none_walk h
  obtain ⟨⟨p0, p1, p2, p3, p4, vv, kv, hb, hf⟩, _, ⟨c0, hc0, hp0⟩, ⟨c1, hc1, hp1⟩⟩ := h
  have hc8 : w.cell? ⟨m + 3, 8, none⟩ = some (.map (some (m + 1))) := hb.cell 8
  have hc9 : w.cell? ⟨m + 3, 9, none⟩ = some (.map (some (m + 2))) := hb.cell 9
  have key : ∃ v, (Instr.lookup 42 (.map (some (if full then m + 2 else m + 1))) (.int .i64 r) true).run Tryz.prog w = .ok (.tuple #[v, .bool (foldsOf full Φ.fol r).isSome]) w ∧
      ∀ l, foldsOf full Φ.fol r = some l → Calls Tryz.prog 70 #[v] w (CloneSaid (foldz Φ full r) w) := by
    have k2 : ∀ (B c b : Nat), PtsAt w B b c (foldsOf full Φ.fol) → ∃ v, (Instr.lookup 42 (.map (some b)) (.int .i64 r) true).run Tryz.prog w = .ok (.tuple #[v, .bool (foldsOf full Φ.fol r).isSome]) w ∧
        ∀ l, foldsOf full Φ.fol r = some l → Calls Tryz.prog 70 #[v] w (CloneSaid (foldz Φ full r) w) := by
      intro B c b hp
      obtain ⟨v, hlook, hv⟩ := hp.look r hr true
      refine ⟨v, hlook, fun l hF => ?_⟩
      unfold foldz
      rw [hF] at hv ⊢
      simp only at hv ⊢
      rw [ints_intz] at hv
      exact clone_walk (l := l.map fun n : Nat => (n : Int)) (by unfold IntsAt; rw [List.length_map]; exact hv) (by rw [List.length_map]; exact folds_len hok hF)
    cases full
    · exact k2 _ _ _ hp0
    · exact k2 _ _ _ hp1
  obtain ⟨v, hlook, hcl⟩ := key
  have HN := Lib.hid hn
  have HC := Lib.hid hcl
  have Hnone := Lib.hid (fun (h : foldsOf full Φ.fol r = none) => (show foldz Φ full r = [r] by unfold foldz; rw [h]))
  clear hn hcl hb hf hp0 hp1
  cases hF : foldsOf full Φ.fol r with
  | some l =>
    have HC2 := Lib.hid (HC.out l hF)
    rw [hF] at hlook
    simp only [Option.isSome_some] at hlook
    clear HC Hnone hF
    cases full
    all_goals
      simp only [Bool.false_eq_true, if_false, if_true] at hlook
      go_enter Tryz.func44, Tryz.ntmps44
      go_wp2_with fail
      refine HN.out.mono ?_
      rintro e w' ⟨rfl, rfl⟩
      go_wp2_with fail
      refine HC2.out.mono ?_
      rintro e w1 ⟨v1, rfl, hs⟩
      have HS := Lib.hid hs
      clear hs HC2 HN
      go_wp2_with fail
      go_ret
      exact ⟨_, rfl, HS.out⟩
  | none =>
    have HN2 := Lib.hid (Hnone.out hF)
    rw [hF] at hlook
    simp only [Option.isSome_none] at hlook
    clear HC Hnone hF
    cases full
    all_goals
      simp only [Bool.false_eq_true, if_false, if_true] at hlook
      go_enter Tryz.func44, Tryz.ntmps44
      go_wp2_with fail
      refine HN.out.mono ?_
      rintro e w' ⟨rfl, rfl⟩
      go_wp2_with fail
      go_ret
      refine ⟨_, rfl, ?_, alloc_below _ _⟩
      rw [HN2.out]
      exact own_fresh1 _ _ _
/-- What a code point folds to, simply. -/
def simpleOf (Φ : Files) (r : Int) : Int := (foldz Φ false r).headD 0
end
end Go.Proofs.YtchkckfadennhaaGreatDoor
