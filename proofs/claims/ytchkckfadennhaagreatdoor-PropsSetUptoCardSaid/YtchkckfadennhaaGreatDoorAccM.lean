/- IntsA, AccW, TxP: in one text. -/
import Derived.Test.YtchkckfadennhaaGreatDoorLod
import Derived.Test.YtchkckfadennhaaGreatDoorTrie
namespace Go.Proofs.YtchkckfadennhaaGreatDoor
open Go.RowKit
set_option linter.unusedVariables false
set_option linter.unusedSimpArgs false

def intz (l : List Int) : List Value := l.map (Value.int .i64)
abbrev IntsAt (w : World) (B : Nat) (v : Value) (l : List Int) : Prop := w.ownsRow B 3 1 v l.length (intz l)
theorem intz_get (l : List Int) (j : Nat) (h : j < l.length) : (intz l)[j]? = some (.int .i64 (l.getD j 0)) := by
  unfold intz
  rw [List.getElem?_map, List.getElem?_eq_getElem h, List.getD_eq_getElem?_getD, List.getElem?_eq_getElem h]
  rfl
def CloneSaid (l : List Int) (w : World) (e : Ending) (w' : World) : Prop := ∃ v', e = .returned v' ∧ IntsAt w' w.heap.size v' l ∧ Below w.heap.size w w'
end Go.Proofs.YtchkckfadennhaaGreatDoor

namespace Go.Proofs.YtchkckfadennhaaGreatDoor
open Go.RowKit
set_option linter.unusedVariables false
set_option linter.unusedSimpArgs false

theorem own_fresh1 (w : World) (e : TypeId) (v : Value) : (w.alloc (.cells #[v] e)).ownsRow w.heap.size e 1 (.slice (some ⟨w.heap.size, 0, none⟩) 1 1) 1 [v] :=
  ⟨rfl, .inr ⟨w.heap.size, 1, #[v], rfl, Nat.le_refl _, row_new _ _, by omega, by unfold maxLen; omega, rfl, rfl⟩⟩
/-- What the tables say of code points. -/
def txOf (rs : List Rec) (r : Int) (other : Sp.Str) : Sp.Str := (trieGet (valsOf rs) (entCur (entsOf rs).reverse) r).getD other
section
variable {w : World} {m : Nat} {Φ : Files}
theorem none_walk (h : TabAt w m Φ) : Calls Tryz.prog 28 #[.pointer (some ⟨m + 3, 0, none⟩)] w fun e w' => e = .returned (.bool false) ∧ w = w' := by
  obtain ⟨⟨p0, p1, p2, p3, p4, vv, kv, hb, hf⟩, _⟩ := h
  have hc : w.cell? ⟨m + 3, 7, none⟩ = some (.map (some m)) := hb.cell 7
  have hm := fun (w : World) (r : Option Nat) => run_eql_map_nil (P := Tryz.prog) w 42 3 57 r Tryz.underlying42
  clear hb hf
  go_enter Tryz.func28, Tryz.ntmps28
  go_wp2
  go_ret
  exact ⟨rfl, rfl⟩
theorem category_walk (h : TabAt w m Φ) (hok : FilesOk Φ) (r : Int) : Calls Tryz.prog 10 #[.pointer (some ⟨m + 3, 0, none⟩), .int .i64 r] w fun e w' => e = .returned (.string ⟨(txOf Φ.cat r [67, 110]).toArray⟩) ∧ Below w.heap.size w w' := by
  have hn := none_walk h
  obtain ⟨⟨p0, p1, p2, p3, p4, vv, kv, hb, hf⟩, _⟩ := h
  have hc : w.cell? ⟨m + 3, 0, none⟩ = some (.pointer (some ⟨p0, 0, none⟩)) := hb.cell 0
  have ho := or_walk hf.t0 r (by have := valsOf_len Φ.cat; have := hok.cat.le; omega) [67, 110]
  have HN := Lib.hid hn
  have HO := Lib.hid ho
  clear hn ho hb hf
  go_enter Tryz.func10, Tryz.ntmps10
  go_wp2_with fail
  refine HN.out.mono ?_
  rintro e w' ⟨rfl, rfl⟩
  go_wp2_with fail
  refine HO.out.mono ?_
  rintro e w1 ⟨rfl, hb1⟩
  have HB1 := Lib.hid hb1
  clear hb1 HO HN
  go_wp2_with fail
  go_ret
  exact ⟨rfl, HB1.out⟩
end
end Go.Proofs.YtchkckfadennhaaGreatDoor

namespace Go.Proofs.YtchkckfadennhaaGreatDoor
open Go.RowKit
set_option linter.unusedVariables false
set_option linter.unusedSimpArgs false

def inRec2 (r : Int) (x : Rec) : Bool := decide ((x.lo : Int) ≤ r) && decide (r ≤ x.hi)
def firstOf (rs : List Rec) (r : Int) (other : Sp.Str) : Sp.Str := match rs.find? (inRec2 r) with
  | some x => fld0 x
  | none => other
theorem cur_rev (r : Int) : ∀ (es : List Ent), entCur es.reverse r = match es.find? (fun e => decide (e.lo ≤ r) && decide (r ≤ e.hi)) with | some e => e.val | none => -1
  | [] => rfl
  | e :: es => by
    rw [List.reverse_cons, entCur_snoc, cur_rev r es, List.find?_cons]
    by_cases h : e.lo ≤ r ∧ r ≤ e.hi
    · rw [if_pos h, decide_eq_true h.1, decide_eq_true h.2]
      rfl
    · rw [if_neg h]
      have : (decide (e.lo ≤ r) && decide (r ≤ e.hi)) = false := by
        by_cases h1 : e.lo ≤ r
        · have h2 : ¬ r ≤ e.hi := fun h2 => h ⟨h1, h2⟩
          rw [decide_eq_false h2, Bool.and_false]
        · rw [decide_eq_false h1, Bool.false_and]
      rw [this]
theorem vals_keep : ∀ (rs : List Rec) (vs : List Sp.Str) (k : Nat) (v : Sp.Str), vs[k]? = some v → (rs.foldl (fun vs r => addVal vs (fld0 r)) vs)[k]? = some v
  | [], _, _, _, h => h
  | r :: rs, vs, k, v, h => by
    rw [List.foldl_cons]
    refine vals_keep rs _ k v ?_
    unfold addVal
    split
    · exact h
    · rw [List.getElem?_append_left (List.getElem?_eq_some_iff.1 h).1]
      exact h
theorem ents_find (r : Int) : ∀ (rs : List Rec) (vs : List Sp.Str), match rs.find? (inRec2 r) with
    | none => (entsFrom rs vs).find? (fun e => decide (e.lo ≤ r) && decide (r ≤ e.hi)) = none
    | some x => ∃ e k, (entsFrom rs vs).find? (fun e => decide (e.lo ≤ r) && decide (r ≤ e.hi)) = some e ∧ e.val = ((k : Nat) : Int) ∧ (rs.foldl (fun vs r => addVal vs (fld0 r)) vs)[k]? = some (fld0 x)
  | [], vs => rfl
  | y :: rs, vs => by
    have ih := ents_find r rs (addVal vs (fld0 y))
    rw [List.find?_cons]
    unfold entsFrom
    rw [List.find?_cons]
    have e0 : (decide ((⟨y.lo, y.hi, ((addVal vs (fld0 y)).idxOf (fld0 y) : Nat)⟩ : Ent).lo ≤ r) && decide (r ≤ (⟨y.lo, y.hi, ((addVal vs (fld0 y)).idxOf (fld0 y) : Nat)⟩ : Ent).hi)) = inRec2 r y := rfl
    rw [e0]
    cases hy : inRec2 r y with
    | true =>
      refine ⟨_, _, rfl, rfl, ?_⟩
      rw [List.foldl_cons]
      refine vals_keep rs _ _ _ ?_
      have hm := List.idxOf_lt_length_of_mem (addVal_mem vs (fld0 y))
      rw [List.getElem?_eq_getElem hm, List.getElem_idxOf]
    | false =>
      simp only [List.foldl_cons]
      exact ih
theorem txOf_first {rs : List Rec} (h : ∀ x ∈ rs, x.hi ≤ 1114111) (r : Int) (other : Sp.Str) : txOf rs r other = firstOf rs r other := by
  unfold txOf firstOf trieGet
  rw [cur_rev]
  have hf := ents_find r rs []
  show (if _ then (valsOf rs)[_]? else none).getD other = _
  cases hx : rs.find? (inRec2 r) with
  | none =>
    rw [hx] at hf
    have hf' : (entsOf rs).find? (fun e => decide (e.lo ≤ r) && decide (r ≤ e.hi)) = none := hf
    rw [hf']
    simp only
    rw [if_neg (by omega)]
    rfl
  | some x =>
    rw [hx] at hf
    obtain ⟨e, k, h1, h2, h3⟩ := hf
    have h1' : (entsOf rs).find? (fun e => decide (e.lo ≤ r) && decide (r ≤ e.hi)) = some e := h1
    rw [h1']
    simp only
    have hin := List.find?_some hx
    unfold inRec2 at hin
    simp only [Bool.and_eq_true, decide_eq_true_eq] at hin
    have hhi := h x (List.mem_of_find?_eq_some hx)
    rw [if_pos (by omega), h2, Int.toNat_natCast]
    have h3' : (valsOf rs)[k]? = some (fld0 x) := h3
    rw [h3']
    rfl
theorem listOk_hi {rs : List Rec} (h : ListOk rs) : ∀ x ∈ rs, x.hi ≤ 1114111 := fun x hx => (h.ok x hx).2.1
/-- A text that only one code point's record says is said of that one alone. -/
theorem first_only {rs : List Rec} {s : Sp.Str} {c : Nat} (h : ∀ x ∈ rs, fld0 x = s → x.lo = c ∧ x.hi = c) {other : Sp.Str} (ho : other ≠ s) (r : Int) (hr : firstOf rs r other = s) : r = c := by
  unfold firstOf at hr
  cases hx : rs.find? (inRec2 r) with
  | none =>
    rw [hx] at hr
    exact absurd hr ho
  | some x =>
    rw [hx] at hr
    obtain ⟨h1, h2⟩ := h x (List.mem_of_find?_eq_some hx) hr
    have hin := List.find?_some hx
    unfold inRec2 at hin
    simp only [Bool.and_eq_true, decide_eq_true_eq] at hin
    omega
end Go.Proofs.YtchkckfadennhaaGreatDoor
