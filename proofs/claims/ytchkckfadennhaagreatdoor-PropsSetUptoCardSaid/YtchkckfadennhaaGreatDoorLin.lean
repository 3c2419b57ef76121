/- lines.Hex: the code point of digits (ASCII texts). lines.fields, lines.record, lines.Parse. lines.Parse: the records of a file of ASCII bytes that has no line that can't be. The files' texts, as the program's own functions hold them, and their records. -/
import Derived.Test.YtchkckfadennhaaGreatDoorProg
import Derived.Test.YtchkckfadennhaaGreatDoorBase
import Derived.Laws.RangeString
import Derived.LoopTactic
import Derived.RegionTactic
import Derived.Deep.QuietTactic
import Derived.BigQuiet
import Derived.Outline
import Derived.WalkLawsBesides
import Derived.KernelRfl
import Derived.Handy
import Derived.Test.YtchkckfadennhaaGreatDoorShelf
import Derived.Shelf.Strings.SlTrimAscii
import Derived.Deep.RegionHeld3
import Derived.WalkMore
namespace Go.Proofs.YtchkckfadennhaaGreatDoor
open Go.RowKit
set_option linter.unusedVariables false

namespace Sp
abbrev Str := List UInt8
def hexDig (b : UInt8) : Option Nat :=
  if 48 ≤ b.toNat ∧ b.toNat ≤ 57 then some (b.toNat - 48) else if 65 ≤ b.toNat ∧ b.toNat ≤ 70 then some (b.toNat - 55) else if 97 ≤ b.toNat ∧ b.toNat ≤ 102 then some (b.toNat - 87) else none
def hexGo : Nat → Str → Option Nat
  | n, [] => some n
  | n, b :: l => match hexDig b with | some d => hexGo (n * 16 + d) l | none => none
def hex (s : Str) : Option Nat :=
  if s.length < 4 ∨ 6 < s.length then none else match hexGo 0 s with | some n => if 1114111 < n then none else some n | none => none
end Sp
namespace Sp
theorem hexGo_snoc : ∀ (l : Str) (n : Nat) (b : UInt8), hexGo n (l ++ [b]) = (hexGo n l).bind fun m => (hexDig b).map fun d => m * 16 + d
  | [], n, b => by simp only [List.nil_append, hexGo, Option.bind_some]; cases hexDig b <;> rfl
  | c :: l, n, b => by
    simp only [List.cons_append, hexGo]
    cases hexDig c with
    | none => rfl
    | some d => exact hexGo_snoc l _ b
theorem hexDig_lt {b : UInt8} {d : Nat} (h : hexDig b = some d) : d < 16 := by
  unfold hexDig at h
  repeat' split at h
  all_goals simp at h
  all_goals omega
theorem hexGo_none (l l' : Str) (n : Nat) (h : hexGo n l = none) : hexGo n (l ++ l') = none := by
  induction l generalizing n with
  | nil => simp [hexGo] at h
  | cons c l ih =>
    simp only [List.cons_append, hexGo] at h ⊢
    cases hd : hexDig c with
    | none => rfl
    | some d => rw [hd] at h; exact ih _ h
theorem take_snoc (s : ByteArray) (k : Nat) (h : k < s.size) : s.data.toList.take (k + 1) = s.data.toList.take k ++ [s[k]] := by
  rw [List.take_succ_eq_append_getElem (by simpa using h)]; rfl
end Sp
/-- What the loop of Hex holds at its head. -/
def HexAt (s : ByteArray) (k m : Nat) : Prop := Sp.hexGo 0 (s.data.toList.take k) = some m ∧ m < 16 ^ k
theorem HexAt.step {s : ByteArray} {k m d : Nat} (h : HexAt s k m) (hk : k < s.size) (hd : Sp.hexDig s[k] = some d) : HexAt s (k + 1) (m * 16 + d) := by
  obtain ⟨h1, h2⟩ := h
  have := Sp.hexDig_lt hd
  exact ⟨by rw [Sp.take_snoc s k hk, Sp.hexGo_snoc, h1, hd]; rfl, by rw [Nat.pow_succ]; omega⟩
theorem HexAt.lt {s : ByteArray} {k m : Nat} (h : HexAt s k m) (hk : k ≤ 6) : m < 16777216 := by
  have h2 := h.2
  have : 16 ^ k ≤ 16 ^ 6 := Nat.pow_le_pow_right (by omega) hk
  omega
theorem HexAt.bad {s : ByteArray} {k m : Nat} (h : HexAt s k m) (hk : k < s.size) (hd : Sp.hexDig s[k] = none) : Sp.hex s.data.toList = none := by
  have e : Sp.hexGo 0 (s.data.toList.take (k + 1)) = none := by rw [Sp.take_snoc s k hk, Sp.hexGo_snoc, h.1, hd]; rfl
  have e2 : Sp.hexGo 0 s.data.toList = none := by
    rw [← List.take_append_drop (k + 1) s.data.toList]
    exact Sp.hexGo_none _ _ _ e
  unfold Sp.hex
  rw [e2]
  split <;> rfl
theorem HexAt.done {s : ByteArray} {m : Nat} (h : HexAt s s.size m) (h4 : 4 ≤ s.size) (h6 : s.size ≤ 6) : Sp.hex s.data.toList = if 1114111 < m then Option.none else some m := by
  have e := h.1
  rw [List.take_of_length_le (by simp)] at e
  unfold Sp.hex
  rw [e, if_neg (by simp; omega)]
theorem or_digit (m : Nat) (d : Int) (hm : m < 16777216) (h0 : 0 ≤ d) (hd : d < 16) : bits .or .i64 ((m : Int) * 16) d = (m : Int) * 16 + d :=
  bits_join .i64 63 (by decide) (fun n h₀ h₁ => by rw [IntKind.wrap_i64]; omega) 4 _ d (by omega) (by omega) (by omega) h0 (by omega) (by omega)
theorem hexDig_a {b : UInt8} (h1 : 48 ≤ (b.toNat : Int)) (h2 : (b.toNat : Int) ≤ 57) : Sp.hexDig b = some (b.toNat - 48) := by
  unfold Sp.hexDig; rw [if_pos (by omega)]
theorem hexDig_b {b : UInt8} (h1 : 65 ≤ (b.toNat : Int)) (h2 : (b.toNat : Int) ≤ 70) : Sp.hexDig b = some (b.toNat - 55) := by
  unfold Sp.hexDig; rw [if_neg (by omega), if_pos (by omega)]
theorem hexDig_c {b : UInt8} (h1 : 97 ≤ (b.toNat : Int)) (h2 : (b.toNat : Int) ≤ 102) : Sp.hexDig b = some (b.toNat - 87) := by
  unfold Sp.hexDig; rw [if_neg (by omega), if_neg (by omega), if_pos (by omega)]
theorem hexDig_d {b : UInt8} (h1 : (b.toNat : Int) < 48 ∨ 57 < (b.toNat : Int)) (h2 : (b.toNat : Int) < 65 ∨ 70 < (b.toNat : Int)) (h3 : (b.toNat : Int) < 97 ∨ 102 < (b.toNat : Int)) : Sp.hexDig b = none := by
  unfold Sp.hexDig; rw [if_neg (by omega), if_neg (by omega), if_neg (by omega)]
theorem hex_rel {s : ByteArray} {w : World} {k m : Nat} {x : Int} (hlt : k < s.size) (hat : HexAt s k m) (h6 : s.size ≤ 6) {d : Nat} (hd : Sp.hexDig s[k] = some d) (hx : x = d) :
    ∃ k_1 m_1 : Nat, k_1 ≤ s.size ∧ w.iter s (k + 1) = w.iter s k_1 ∧ Value.int IntKind.i64 (bits BinOp.or IntKind.i64 ((m : Int) * 16) x) = Value.int IntKind.i64 (m_1 : Int) ∧ HexAt s k_1 m_1 := by
  have hm := hat.lt (by omega)
  have hd' := Sp.hexDig_lt hd
  exact ⟨k + 1, m * 16 + d, by omega, rfl, by subst hx; rw [or_digit m d hm (by omega) (by omega)]; congr 1, hat.step hlt hd⟩

def HexSaid (s : ByteArray) (w : World) (e : Ending) (w' : World) : Prop := e = .returned (.tuple #[.int .i64 ((Sp.hex s.data.toList).getD 0 : Nat), .bool (Sp.hex s.data.toList).isSome]) ∧ Below w.heap.size w w'

set_option maxRecDepth 100000 in
theorem hex_walk (s : ByteArray) (w : World) (ha : ∀ k (h : k < s.size), (s[k]'h).toNat < 128) :
    Calls Tryz.prog 55 #[.string s] w (HexSaid s w) := by
  by_cases h46 : s.size < 4 ∨ 6 < s.size
  · have e : Sp.hex s.data.toList = none := by unfold Sp.hex; rw [if_pos (by simpa using h46)]
    have hfin : HexSaid s w (.returned (.tuple #[.int .i64 0, .bool false])) w := ⟨by rw [e]; rfl, Below.refl _ _⟩
    clear e ha
    rcases h46 with h4 | h6
    · have h4' : decide ((s.size : Int) < 4) = true := by simp; omega
      go_enter Tryz.func55, Tryz.ntmps55
      go_wp2
      go_ret2
      exact hfin
    · have h4' : decide ((s.size : Int) < 4) = false := by simp; omega
      have h6' : decide (6 < (s.size : Int)) = true := by simp; omega
      go_enter Tryz.func55, Tryz.ntmps55
      go_wp2
      go_ret2
      exact hfin
  · have h4 : 4 ≤ s.size := by omega
    have h6 : s.size ≤ 6 := by omega
    have h4' : decide ((s.size : Int) < 4) = false := by simp; omega
    have h6' : decide (6 < (s.size : Int)) = false := by simp; omega
    clear h46
    go_enter Tryz.func55, Tryz.ntmps55
    go_wp2
    go_loopw [4] (fun n wr => ∃ k m : Nat, k ≤ s.size ∧ wr = w.iter s k ∧ n = .int .i64 m ∧ HexAt s k m) (fun _ wr => s.size - wr.iterPos w.heap.size)
    case atStart => exact ⟨0, 0, by omega, rfl, rfl, rfl, by decide⟩
    case round =>
      obtain ⟨k, m, hk, rfl, rfl, hat⟩ := hrel
      by_cases hlt : k < s.size
      · have hnx := fun ty => run_next_ascii (P := Tryz.prog) w s k ty hlt (ha k hlt)
        have hb := ha k hlt
        have hm := hat.lt (by omega)
        have hbad : Sp.hexDig s[k] = none → HexSaid s w (.returned (.tuple #[.int .i64 0, .bool false])) (w.iter s (k + 1)) := fun hd => ⟨by rw [hat.bad hlt hd]; rfl, (Below.refl _ _).alloc (Nat.le_refl _) _⟩
        have HB := Lib.hid hbad
        clear hbad
        go_wp2
        all_goals first
          | (go_ret2; exact HB.out (hexDig_d (by omega) (by omega) (by omega)))
          | (refine ⟨hex_rel hlt hat h6 (hexDig_a (by assumption) (by assumption)) (by omega), ?_⟩; simp; omega)
          | (refine ⟨hex_rel hlt hat h6 (hexDig_b (by assumption) (by assumption)) (by omega), ?_⟩; simp; omega)
          | (refine ⟨hex_rel hlt hat h6 (hexDig_c (by assumption) (by assumption)) (by omega), ?_⟩; simp; omega)
      · have hnx := fun ty => run_next_end (P := Tryz.prog) w s k ty hlt
        obtain rfl : k = s.size := by omega
        have hfin := hat.done h4 h6
        have hm := hat.lt h6
        have HF := Lib.hid hfin
        clear hfin hat hk hlt
        by_cases hbig : 1114111 < m
        · have hfin2 : HexSaid s w (.returned (.tuple #[.int .i64 0, .bool false])) (w.iter s s.size) := ⟨by rw [HF.out, if_pos hbig]; rfl, (Below.refl _ _).alloc (Nat.le_refl _) _⟩
          clear HF
          go_wp2
          go_ret2
          exact hfin2
        · have hfin2 : HexSaid s w (.returned (.tuple #[.int .i64 m, .bool true])) (w.iter s s.size) := ⟨by rw [HF.out, if_neg hbig]; rfl, (Below.refl _ _).alloc (Nat.le_refl _) _⟩
          clear HF
          go_wp2
          go_ret2
          exact hfin2
end Go.Proofs.YtchkckfadennhaaGreatDoor
namespace Go.Proofs.YtchkckfadennhaaGreatDoor
open Go.RowKit
set_option linter.unusedVariables false

def strV (l : List UInt8) : Value := .string ⟨l.toArray⟩
def strVs (l : List (List UInt8)) : List Value := l.map strV
/-- What the walks ask of the world: a variable of the library's that is read. -/
def Env (w : World) : Prop := ∃ m, w.cell? ⟨2, 0, none⟩ = some (.int .i64 m)
theorem Env.below {w w' : World} (h : Env w) (hb : Below w.heap.size w w') : Env w' := by
  obtain ⟨m, h⟩ := h
  exact ⟨m, cell_later hb h⟩
theorem asciiSet_info : (Tryz.prog.info? 109).map (fun i => (i.zero, i.size)) = some (some (.agg (Array.replicate 256 (.bool false))), 256) := by kernel_rfl
theorem trimS_le (l cs : List UInt8) : (Lib.trimS l cs).length ≤ l.length := by
  unfold Lib.trimS Lib.trimLeftS Lib.trimRightS
  have h1 := (List.dropWhile_sublist (cs.contains ·) (l := (l.reverse.dropWhile (cs.contains ·)).reverse)).length_le
  have h2 := (List.dropWhile_sublist (cs.contains ·) (l := l.reverse)).length_le
  simp at h1 h2 ⊢
  omega
theorem trim_blanks (s : ByteArray) (w : World) (hs : s.size ≤ 9223372036854775807) :
    Calls Tryz.prog 81 #[.string s, .string ⟨#[32, 9]⟩] w fun e w' => ∃ t : ByteArray, e = .returned (.string t) ∧ Hid (t.data.toList = Lib.trimS s.data.toList [32, 9]) ∧ t.size ≤ s.size ∧ Below w.heap.size w w' := by
  refine (Any.strings_Trim_laid Tryz.lays160 asciiSet_info s ⟨#[32, 9]⟩ w hs (by decide) (ascii_of_all (by decide))).mono fun e w' ⟨he, hb⟩ => ?_
  refine ⟨_, he, Lib.hid rfl, ?_, hb⟩
  show (Lib.trimS s.data.toList [32, 9]).toArray.size ≤ s.data.size
  rw [List.size_toArray, ← Array.length_toList]
  exact trimS_le _ _
namespace Sp
def trim (l : Str) : Str := Lib.trimS l [32, 9]
def line (l : Str) : Str := trim (Lib.cut l [35]).1
def fields (l : Str) : List Str := if line l = [] then [] else (Lib.split (line l) [59]).map trim
end Sp
theorem splitK_le (sep : List UInt8) : ∀ (k : Nat) (l : List UInt8) (p : List UInt8), p ∈ Lib.splitK sep 0 k l → p.length ≤ l.length
  | 0, l, p, h => by simp [Lib.splitK] at h; subst h; exact Nat.le_refl _
  | k + 1, l, p, h => by
    unfold Lib.splitK at h
    split at h
    · simp at h; subst h; exact Nat.le_refl _
    · rcases List.mem_cons.1 h with rfl | h
      · exact List.length_take_le' _ _
      · have := splitK_le sep k _ p h
        simp at this
        omega
theorem split_one (s : ByteArray) (c : UInt8) (w : World) (hs : s.size < 4294967281) (hE : Env w) :
    Calls Tryz.prog 51 #[.string s, .string ⟨#[c]⟩] w fun e w' => ∃ ps : List ByteArray, e = .returned (.slice (some ⟨w.heap.size, 0, none⟩) ps.length ps.length) ∧
      Hid (ps.map (·.data.toList) = Lib.split s.data.toList [c]) ∧ 1 ≤ ps.length ∧ ps.length ≤ s.size + 1 ∧ (∀ p ∈ ps, p.size ≤ s.size) ∧ w' = w.alloc (.cells (ps.map Value.string).toArray 9) := by
  obtain ⟨m, hm⟩ := hE
  refine (Tryz.strings_Split s ⟨#[c]⟩ m w hs hm (Nat.le_refl 1)).mono fun e w' ⟨he, hw⟩ => ?_
  have hl := Lib.splitB_all ⟨#[c]⟩ (Nat.le_refl 1) 0 _ s rfl
  have hle := Lib.countB_le ⟨#[c]⟩ (Nat.le_refl 1) _ s (Nat.le_refl _)
  have hd := Lib.splitB_data ⟨#[c]⟩ 0 (Lib.countB s ⟨#[c]⟩) s
  refine ⟨Lib.splitB ⟨#[c]⟩ 0 (Lib.countB s ⟨#[c]⟩) s, by rw [hl]; exact he, hd, by omega, by omega, fun p hp => ?_, hw⟩
  have h2 : p.data.toList ∈ Lib.splitK [c] 0 (Lib.countB s ⟨#[c]⟩) s.data.toList := by rw [← hd]; exact List.mem_map_of_mem hp
  have h3 := splitK_le _ _ _ _ h2
  rwa [Array.length_toList, Array.length_toList] at h3

def FieldsSaid (s : ByteArray) (w : World) (e : Ending) (w' : World) : Prop :=
  ∃ v, e = .returned v ∧ w'.ownsRow w.heap.size 9 1 v (Sp.fields s.data.toList).length (strVs (Sp.fields s.data.toList)) ∧ Below w.heap.size w w' ∧ (Sp.fields s.data.toList = [] → v = .slice none 0 0)
/-- The loop of fields after k rounds. -/
def fieldsRow (ps : List ByteArray) (k : Nat) : List Value := (ps.take k).map (fun p => strV (Sp.trim p.data.toList)) ++ (ps.drop k).map Value.string
theorem fieldsRow_set (ps : List ByteArray) (k : Nat) (hk : k < ps.length) (t : ByteArray) (ht : t.data.toList = Lib.trimS ps[k].data.toList [32, 9]) : (fieldsRow ps k).set k (.string t) = fieldsRow ps (k + 1) := by
  unfold fieldsRow
  have hl : ((ps.take k).map (fun p => strV (Sp.trim p.data.toList))).length = k := by simp; omega
  rw [List.set_append_right _ _ (by omega), hl, Nat.sub_self, List.drop_eq_getElem_cons hk, List.map_cons, List.set_cons_zero, List.take_succ_eq_append_getElem hk, List.map_append, List.append_assoc]
  congr 1
  simp only [List.map_cons, List.map_nil, List.singleton_append]
  congr 1
  unfold strV Sp.trim
  rw [← ht]
theorem fieldsRow_get (ps : List ByteArray) (k : Nat) (hk : k < ps.length) : (fieldsRow ps k)[k]? = some (.string ps[k]) := by
  unfold fieldsRow
  have hl : ((ps.take k).map (fun p => strV (Sp.trim p.data.toList))).length = k := by simp; omega
  rw [List.getElem?_append_right (by omega), hl, Nat.sub_self, List.drop_eq_getElem_cons hk]
  rfl
theorem fieldsRow_all (ps : List ByteArray) (l : List UInt8) (h : ps.map (·.data.toList) = Lib.split l [59]) : fieldsRow ps ps.length = strVs ((Lib.split l [59]).map Sp.trim) := by
  unfold fieldsRow strVs
  rw [← h, List.take_of_length_le (Nat.le_refl _), List.drop_of_length_le (Nat.le_refl _)]
  simp

set_option maxRecDepth 100000 in
theorem fields_walk (s : ByteArray) (w : World) (hs : s.size < 4294967281) (hE : Env w) : Calls Tryz.prog 52 #[.string s] w (FieldsSaid s w) := by
  have hcut : (Lib.cut s.data.toList [35]).1.length ≤ s.size := by
    unfold Lib.cut
    split
    · simp; omega
    · simp
  obtain ⟨m, hm⟩ := hE
  go_enter Tryz.func52, Tryz.ntmps52
  go_wp2_with fail
  refine (Tryz.strings_Cut s _ m _ hs hm).mono ?_
  rintro e w' ⟨rfl, q, rfl⟩
  have hb0 : Below w.heap.size w (w.drewN q) := ⟨rfl, rfl, rfl, Nat.le_refl _, fun _ _ => rfl⟩
  go_wp2_with fail
  refine (trim_blanks _ _ ?_).mono ?_
  · show (Lib.cut s.data.toList [35]).1.toArray.size ≤ _
    rw [List.size_toArray]
    omega
  rintro e w1 ⟨t, rfl, Ht, htl, hb1⟩
  have htl' : t.size ≤ s.size := Nat.le_trans htl (by show (Lib.cut s.data.toList [35]).1.toArray.size ≤ _; rw [List.size_toArray]; exact hcut)
  have hb : Below w.heap.size w w1 := hb0.trans hb1
  have hline : Hid (Sp.line s.data.toList = t.data.toList) := Ht.out.symm
  clear Ht htl hcut hb0 hb1
  by_cases ht : t.size = 0
  · have h0 : t.data.toList = [] := by rw [← List.length_eq_zero_iff, Array.length_toList]; exact ht
    have hfin : FieldsSaid s w (.returned (.slice none 0 0)) w1 := by
      have e1 : Sp.fields s.data.toList = [] := by unfold Sp.fields; rw [if_pos (hline.out.trans h0)]
      exact ⟨_, rfl, by rw [e1]; exact World.ownsRow_nil _ _ _ _, hb, fun _ => rfl⟩
    have h1 : t.toList = [] := by rw [Lib.toList_data]; exact h0
    have h2 : t.toList.isEmpty = true := by rw [h1]; rfl
    clear h0 hline
    go_wp2_with fail
    go_ret
    exact hfin
  · have h0 : t.data.toList ≠ [] := by intro h; apply ht; show t.data.size = 0; rw [← Array.length_toList, h]; rfl
    have h2 : t.toList.isEmpty = false := by rw [Lib.toList_data]; cases h : t.data.toList with | nil => exact absurd h h0 | cons => rfl
    have hE1 : Env w1 := Env.below ⟨m, hm⟩ hb
    have hF : Hid (Sp.fields s.data.toList = (Lib.split t.data.toList [59]).map Sp.trim) := by
      show _ = _
      unfold Sp.fields
      rw [if_neg (by rw [hline.out]; exact h0), hline.out]
    clear h0 hline
    go_wp2_with fail
    refine (split_one t 59 w1 (by omega) hE1).mono ?_
    rintro e w2 ⟨ps, rfl, hps, hp1, hpn, hpl, rfl⟩
    have hown : (w1.alloc (.cells (ps.map Value.string).toArray 9)).ownsRow w.heap.size 9 1 (.slice (some ⟨w1.heap.size, 0, none⟩) ps.length ps.length) ps.length (fieldsRow ps 0) := by
      have := World.ownsRow_lit (base := w.heap.size) (e := 9) (size := 1) w1 (ps.map Value.string).toArray ps.length hb.size (by unfold maxLen; omega) (by simp)
      simpa [fieldsRow] using this
    have hb2 : Below w.heap.size w (w1.alloc (.cells (ps.map Value.string).toArray 9)) := hb.alloc hb.size _
    have hbase := hb.size
    clear hE1 hb h2
    go_wp2_with fail
    obtain ⟨W0, hW0⟩ : ∃ W0, W0 = w1.alloc (.cells (ps.map Value.string).toArray 9) := ⟨_, rfl⟩
    rw [← hW0] at hown hb2 ⊢
    clear hW0
    go_loopw [4, 19] (fun _ i wr => ∃ k : Nat, k ≤ ps.length ∧ i = .int .i64 k ∧ wr.ownsRow w.heap.size 9 1 (.slice (some ⟨w1.heap.size, 0, none⟩) ps.length ps.length) ps.length (fieldsRow ps k) ∧ Below w.heap.size w wr) (fun _ i _ => ps.length - (intOf i).toNat)
    case atStart => exact ⟨0, by omega, rfl, hown, hb2⟩
    case round =>
      obtain ⟨k, hk, rfl, hownk, hbk⟩ := hrel
      clear hown hb2
      by_cases hlt : k < ps.length
      · have hc : wr.cell? ⟨w1.heap.size, k, none⟩ = some (.string ps[k]) := (hownk.cellAt k (by omega)).trans (fieldsRow_get ps k hlt)
        have hpk := hpl ps[k] (List.getElem_mem _)
        go_wp2_with fail
        refine (trim_blanks _ _ (by omega)).mono ?_
        rintro e w3 ⟨x, rfl, hx, hxl, hb3⟩
        have hown3 := own_below hownk hb3
        have hc3 : w3.cell? ⟨w1.heap.size, k, none⟩ = some (.string ps[k]) := (hown3.cellAt k (by omega)).trans (fieldsRow_get ps k hlt)
        have hf3 : w3.frozen? ⟨w1.heap.size, k, none⟩ = false := hown3.frozenAt k
        have hbk3 := hbk.trans (hb3.mono hbk.size)
        obtain ⟨hs3, hg3⟩ := hown3.stored k (.string x)
        rw [fieldsRow_set ps k hlt x hx.out] at hs3
        have hbs : Below w.heap.size w (w3.setCell ⟨w1.heap.size, k, none⟩ (.string x)) := hbk3.setCell hbase _
        clear hown3 hg3 hownk hc hpk hbk hb3 hbk3
        go_wp2_with fail
        go_roundw
        case rel => exact ⟨k + 1, by omega, by go_num, hs3, hbs⟩
        case measure => simp [intOf]; omega
      · obtain rfl : k = ps.length := by omega
        have hfin : FieldsSaid s w (.returned (.slice (some ⟨w1.heap.size, 0, none⟩) ps.length ps.length)) wr := by
          rw [fieldsRow_all ps _ hps.out] at hownk
          have e1 : (Lib.split t.data.toList [59]).length = ps.length := by rw [← hps.out]; simp
          refine ⟨_, rfl, ?_, hbk, ?_⟩
          · rw [hF.out, List.length_map, e1]; exact hownk
          · intro e; rw [hF.out] at e
            have h0 := congrArg List.length e
            rw [List.length_map, e1, List.length_nil] at h0
            omega
        clear hownk hbk hpl hlt
        go_wp2_with fail
        go_ret
        exact hfin

structure Rec where
  lo : Nat
  hi : Nat
  fields : List Sp.Str
namespace Sp
def record (f : List Str) : Option Rec :=
  match f with
  | [] => none
  | [_] => none
  | f0 :: f1 :: rest =>
    let c := Lib.cut f0 [46, 46]
    match hex c.1, hex (if c.2.2 then c.2.1 else c.1) with
    | some a, some b => if b < a then none else some ⟨a, b, f1 :: rest⟩
    | _, _ => none
end Sp
theorem slStr : SlT Tryz.prog 25 9 1 16 := ⟨Tryz.underlying25, by kernel_rfl, by decide, by decide⟩
def RecordSaid (fs : List Sp.Str) (w : World) (e : Ending) (w' : World) : Prop := Below w.heap.size w w' ∧
  match Sp.record fs with
  | none => e = .returned (.tuple #[.agg #[.int .i64 0, .int .i64 0, .slice none 0 0], .bool false])
  | some r => ∃ v, e = .returned (.tuple #[.agg #[.int .i64 r.lo, .int .i64 r.hi, v], .bool true]) ∧ w'.ownsRow w.heap.size 9 1 v r.fields.length (strVs r.fields)

theorem cut_mem (s sep : List UInt8) : (∀ b ∈ (Lib.cut s sep).1, b ∈ s) ∧ (∀ b ∈ (Lib.cut s sep).2.1, b ∈ s) := by
  unfold Lib.cut
  split
  · exact ⟨fun b hb => List.mem_of_mem_take hb, fun b hb => List.mem_of_mem_drop hb⟩
  · exact ⟨fun b hb => hb, fun b hb => by simp at hb⟩
theorem ascii_mk (l : List UInt8) (h : ∀ b ∈ l, b.toNat < 128) : ∀ k (hk : k < (ByteArray.mk l.toArray).size), ((ByteArray.mk l.toArray)[k]'hk).toNat < 128 :=
  fun k hk => h _ (by show l.toArray[k] ∈ l; simp)
theorem hex_walk' (l : List UInt8) (w : World) (ha : ∀ b ∈ l, b.toNat < 128) :
    Calls Tryz.prog 55 #[.string ⟨l.toArray⟩] w fun e w' => e = .returned (.tuple #[.int .i64 ((Sp.hex l).getD 0 : Nat), .bool (Sp.hex l).isSome]) ∧ Below w.heap.size w w' :=
  hex_walk ⟨l.toArray⟩ w (ascii_mk l ha)
theorem hex_some {l : List UInt8} {n : Nat} (h : Sp.hex l = some n) (w : World) (ha : ∀ b ∈ l, b.toNat < 128) :
    Calls Tryz.prog 55 #[.string ⟨l.toArray⟩] w fun e w' => e = .returned (.tuple #[.int .i64 n, .bool true]) ∧ Below w.heap.size w w' := by
  have := hex_walk' l w ha
  rw [h] at this
  exact this
theorem hex_none {l : List UInt8} (h : Sp.hex l = none) (w : World) (ha : ∀ b ∈ l, b.toNat < 128) :
    Calls Tryz.prog 55 #[.string ⟨l.toArray⟩] w fun e w' => e = .returned (.tuple #[.int .i64 0, .bool false]) ∧ Below w.heap.size w w' := by
  have := hex_walk' l w ha
  rw [h] at this
  exact this
theorem hex_le {l : List UInt8} {n : Nat} (h : Sp.hex l = some n) : n ≤ 1114111 := by
  unfold Sp.hex at h
  split at h
  · simp at h
  · split at h
    · split at h
      · simp at h
      · simp at h; omega
    · simp at h

set_option maxRecDepth 100000 in
theorem record_short (a : Option Addr) (n cap : Nat) (hn : n < 2) (w : World) :
    Calls Tryz.prog 53 #[.slice a n cap] w fun e w' => e = .returned (.tuple #[.agg #[.int .i64 0, .int .i64 0, .slice none 0 0], .bool false]) ∧ Below w.heap.size w w' := by
  go_enter Tryz.func53, Tryz.ntmps53
  go_wp2_with fail
  exact bodyPost_ret (v := .tuple #[.agg #[.int .i64 0, .int .i64 0, .slice none 0 0], .bool false]) (by simp [results, Tryz.results53, go_sem]) rfl ⟨rfl, (Below.refl _ _).alloc (Nat.le_refl _) _⟩

set_option maxRecDepth 100000 in
theorem record_long_false (g n cap : Nat) (f0 : Sp.Str) (rest : List Sp.Str) (base : Nat) (w : World) (hn : Hid (n = rest.length + 1)) (hn2 : 2 ≤ n) (hsmall : n * 16 ≤ 140737488355328)
    (hown : w.ownsRow base 9 1 (.slice (some ⟨g, 0, none⟩) n cap) n (strVs (f0 :: rest))) (hE : Env w)
    (hl0 : f0.length < 4294967281) (ha : ∀ b ∈ f0, b.toNat < 128) (htwo : (Lib.cut f0 [46, 46]).2.2 = false) : Calls Tryz.prog 53 #[.slice (some ⟨g, 0, none⟩) n cap] w (RecordSaid (f0 :: rest) w) := by
  have hc0 : w.cell? ⟨g, 0, none⟩ = some (.string ⟨f0.toArray⟩) := hown.cellAt 0 (by omega)
  have hgl : g < w.heap.size := block_lt_of_cell hc0
  have hnc : n ≤ cap := by
    obtain ⟨g', cap', he, _, _, h1, h2⟩ := own_form hown (by omega)
    injection he with _ _ h3
    omega
  have hcm : cap ≤ 9223372036854775807 := by
    obtain ⟨g', cap', he, _, _, h1, h2⟩ := own_form hown (by omega)
    injection he with _ _ h3
    unfold maxLen at h2
    omega
  obtain ⟨m, hm⟩ := hE
  have hm1 : (w.alloc (Obj.cells #[Value.int IntKind.i64 0, Value.int IntKind.i64 0, Value.slice none 0 0] 56)).cell? ⟨2, 0, none⟩ = some (.int .i64 m) := cell_later ((Below.refl _ _).alloc (Nat.le_refl _) _) hm
  obtain ⟨c, hc⟩ : ∃ c, c = Lib.cut f0 [46, 46] := ⟨_, rfl⟩
  have hmem := cut_mem f0 [46, 46]
  rw [← hc] at hmem
  have hcut := Tryz.strings_Cut ⟨f0.toArray⟩ ⟨#[46, 46]⟩ m _ hl0 hm1
  have hc' : Lib.cut (ByteArray.mk f0.toArray).data.toList (ByteArray.mk #[46, 46]).data.toList = c := hc.symm
  rw [hc'] at hcut
  have Hc := Lib.hid hc
  obtain ⟨lo, hi, two⟩ := c
  obtain rfl : two = false := by rw [← Hc.out] at htwo; exact htwo
  clear htwo
  have ha1 : ∀ b ∈ lo, b.toNat < 128 := fun b hb => ha b (hmem.1 b hb)
  have ha2 : ∀ b ∈ lo, b.toNat < 128 := by
    intro b hb
    exact ha b (hmem.1 b hb)
  have HA1 := Lib.hid ha1
  have HA2 := Lib.hid ha2
  have HCut := Lib.hid hcut
  clear hc hc' hmem hcut ha1 ha2 hm1 ha hm
  go_enter Tryz.func53, Tryz.ntmps53
  go_wp2_with fail
  refine HCut.out.mono ?_
  rintro e w' ⟨rfl, q, rfl⟩
  obtain ⟨W1, hW1⟩ : ∃ W1, W1 = (w.alloc (Obj.cells #[Value.int IntKind.i64 0, Value.int IntKind.i64 0, Value.slice none 0 0] 56)).drewN q := ⟨_, rfl⟩
  have hB1 : Below w.heap.size w W1 := by subst hW1; exact ((Below.refl _ _).alloc (Nat.le_refl _) _).trans (below_drewN _ q |>.mono (by rw [size_new]; omega))
  have hrow : W1.heap[w.heap.size]? = some (Obj.cells #[Value.int IntKind.i64 0, Value.int IntKind.i64 0, Value.slice none 0 0] 56) := by subst hW1; exact row_new w _
  have hsz1 : W1.heap.size = w.heap.size + 1 := by subst hW1; exact size_new w _
  have hown1 := own_below hown hB1
  rw [← hW1]
  have hbad : Sp.record (f0 :: rest) = none → ∀ w4 : World, Below w.heap.size w w4 → RecordSaid (f0 :: rest) w (.returned (.tuple #[.agg #[.int .i64 0, .int .i64 0, .slice none 0 0], .bool false])) w4 := fun h w4 hb => by
    refine ⟨hb, ?_⟩
    rw [h]
  have Hbad := Lib.hid hbad
  clear hW1 HCut hown hc0 hbad
  cases hA : Sp.hex lo
  case none =>
    have hRec : Sp.record (f0 :: rest) = none := by
      cases rest with
      | nil => rfl
      | cons f1 rest => unfold Sp.record; simp only [← Hc.out, hA]
    have HA := Lib.hid hA
    have HRec := Lib.hid hRec
    clear hA hRec
    go_wp2_with fail
    refine (hex_none HA.out _ HA1.out).mono ?_
    rintro e w2 ⟨rfl, hb2⟩
    go_wp2_with fail
    refine (hex_walk' _ _ HA2.out).mono ?_
    rintro e w3 ⟨rfl, hb3⟩
    have hb : Below W1.heap.size W1 w3 := hb2.trans (hb3.mono hb2.size)
    have hrow3 := (hb.block w.heap.size (by omega)).trans hrow
    have r0 := (cells_of_row hrow3).1 0
    have r1 := (cells_of_row hrow3).1 1
    have r2 := (cells_of_row hrow3).1 2
    have q0 := (cells_of_row hrow3).2 0
    have q1 := (cells_of_row hrow3).2 1
    have q2 := (cells_of_row hrow3).2 2
    have hb' : Below w.heap.size w w3 := hB1.trans (hb.mono hB1.size)
    simp at r0 r1 r2
    clear hb2 hb3 hrow hrow3 hb hB1 hown1
    go_wp2_with fail
    refine bodyPost_ret (v := .tuple #[.agg #[.int .i64 0, .int .i64 0, .slice none 0 0], .bool false]) (by simp [results, Tryz.results53, go_sem, r0, r1, r2]) rfl (Hbad.out HRec.out _ ?_)
    exact ((hb'.setCell (by simp) _).setCell (by simp) _).setCell (by simp) _
  case some a =>
    have HA := Lib.hid hA
    have hale := hex_le hA
    clear hA
    go_wp2_with fail
    refine (hex_some HA.out _ HA1.out).mono ?_
    rintro e w2 ⟨rfl, hb2⟩
    cases hB : Sp.hex lo
    case none =>
      have hRec : Sp.record (f0 :: rest) = none := by
        cases rest with
        | nil => rfl
        | cons f1 rest => unfold Sp.record; simp only [← Hc.out, HA.out]; simp [hB]
      have HB := Lib.hid hB
      have HRec := Lib.hid hRec
      clear hB hRec
      go_wp2_with fail
      refine (hex_none HB.out _ HA2.out).mono ?_
      rintro e w3 ⟨rfl, hb3⟩
      have hb : Below W1.heap.size W1 w3 := hb2.trans (hb3.mono hb2.size)
      have hrow3 := (hb.block w.heap.size (by omega)).trans hrow
      have r0 := (cells_of_row hrow3).1 0
      have r1 := (cells_of_row hrow3).1 1
      have r2 := (cells_of_row hrow3).1 2
      have q0 := (cells_of_row hrow3).2 0
      have q1 := (cells_of_row hrow3).2 1
      have q2 := (cells_of_row hrow3).2 2
      have hb' : Below w.heap.size w w3 := hB1.trans (hb.mono hB1.size)
      simp at r0 r1 r2
      clear hb2 hb3 hrow hrow3 hb hB1 hown1
      go_wp2_with fail
      refine bodyPost_ret (v := .tuple #[.agg #[.int .i64 0, .int .i64 0, .slice none 0 0], .bool false]) (by simp [results, Tryz.results53, go_sem, r0, r1, r2]) rfl (Hbad.out HRec.out _ ?_)
      exact ((hb'.setCell (by simp) _).setCell (by simp) _).setCell (by simp) _
    case some b =>
      have HB := Lib.hid hB
      have hble := hex_le hB
      clear hB
      go_wp2_with fail
      refine (hex_some HB.out _ HA2.out).mono ?_
      rintro e w3 ⟨rfl, hb3⟩
      by_cases hba : b < a
      case pos =>
        have hRec : Sp.record (f0 :: rest) = none := by
          cases rest with
          | nil => rfl
          | cons f1 rest => unfold Sp.record; simp only [← Hc.out, HA.out]; simp [HB.out, hba]
        have HRec := Lib.hid hRec
        clear hRec
        have hb : Below W1.heap.size W1 w3 := hb2.trans (hb3.mono hb2.size)
        have hrow3 := (hb.block w.heap.size (by omega)).trans hrow
        have r0 := (cells_of_row hrow3).1 0
        have r1 := (cells_of_row hrow3).1 1
        have r2 := (cells_of_row hrow3).1 2
        have q0 := (cells_of_row hrow3).2 0
        have q1 := (cells_of_row hrow3).2 1
        have q2 := (cells_of_row hrow3).2 2
        have hb' : Below w.heap.size w w3 := hB1.trans (hb.mono hB1.size)
        simp at r0 r1 r2
        clear hb2 hb3 hrow hrow3 hb hB1 hown1
        go_wp2_with fail
        refine bodyPost_ret (v := .tuple #[.agg #[.int .i64 0, .int .i64 0, .slice none 0 0], .bool false]) (by simp [results, Tryz.results53, go_sem, r0, r1, r2]) rfl (Hbad.out HRec.out _ ?_)
        exact ((hb'.setCell (by simp) _).setCell (by simp) _).setCell (by simp) _
      case neg =>
        have hlt : decide (b < a) = false := by simp; omega
        have hb : Below W1.heap.size W1 w3 := hb2.trans (hb3.mono hb2.size)
        have hrow3 := (hb.block w.heap.size (by omega)).trans hrow
        have r0 := (cells_of_row hrow3).1 0
        have r1 := (cells_of_row hrow3).1 1
        have r2 := (cells_of_row hrow3).1 2
        have q0 := (cells_of_row hrow3).2 0
        have q1 := (cells_of_row hrow3).2 1
        have q2 := (cells_of_row hrow3).2 2
        have hb' : Below w.heap.size w w3 := hB1.trans (hb.mono hB1.size)
        simp at r0 r1 r2
        have hown3 := own_below hown1 hb
        have hlit : (w3.alloc (Obj.cells #[] 9)).ownsRow w3.heap.size 9 1 (.slice (some ⟨w3.heap.size, 0, none⟩) 0 0) 0 [] := World.ownsRow_lit (size := 1) w3 #[] 0 (Nat.le_refl _) (by decide) rfl
        have hnews : ∀ j u, (strVs rest)[j]? = some u → (w3.alloc (Obj.cells #[] 9)).cell? ((⟨g, 1, none⟩ : Addr).add j) = some u := fun j u hu => by
          rw [add_plain]; exact own_cell (hown3.alloc (Obj.cells #[] 9)) (1 + j) u (by rw [Nat.add_comm]; exact hu)
        have hlen : (strVs rest).length = (n - 1) * 1 := by have := hn.out; unfold strVs; rw [List.length_map]; omega
        have hone : ∀ u ∈ strVs rest, u.oneCell' = true := fun u hu => by obtain ⟨x, _, rfl⟩ := List.mem_map.1 hu; rfl
        have hgood : ∀ v w4, w4.ownsRow w.heap.size 9 1 v (0 + (n - 1)) ([] ++ strVs rest) → Below w.heap.size w w4 → RecordSaid (f0 :: rest) w (.returned (.tuple #[.agg #[.int .i64 a, .int .i64 b, v], .bool true])) w4 := fun v w4 h1 h2 => by
          refine ⟨h2, ?_⟩
          have hRec : Sp.record (f0 :: rest) = some ⟨a, b, rest⟩ := by
            cases rest with
            | nil => have := hn.out; simp at this; omega
            | cons f1 rest => unfold Sp.record; simp only [← Hc.out, HA.out]; simp [HB.out, hba]
          rw [hRec]
          refine ⟨v, rfl, ?_⟩
          have e : 0 + (n - 1) = rest.length := by have := hn.out; omega
          rw [e] at h1
          exact h1
        have hzb : Below w.heap.size w (w3.alloc (Obj.cells #[] 9)) := hb'.alloc hb'.size _
        have Hlit := Lib.hid hlit
        have Hnews := Lib.hid hnews
        have Hlen := Lib.hid hlen
        have Hone := Lib.hid hone
        have Hgood := Lib.hid hgood
        have hcapb : (0 + (n - 1)) * 16 ≤ 140737488355328 := by have := hsmall; omega
        have hne3 : w.heap.size < w3.heap.size := by have := hb.size; omega
        have hrowz := alloc_row hrow3 (Obj.cells #[] 9)
        have Hrowz := Lib.hid hrowz
        clear hb2 hb3 hrow hrow3 hrowz hb hB1 hown1 hba Hbad hlit hnews hlen hone hgood hb' r0 r1 r2 q0 q1 q2
        go_wp2_with (at_builtin; refine wp_append _ slStr rfl (.tmp 50) (.tmp 52) rfl w3.heap.size (.slice (some ⟨w3.heap.size, 0, none⟩) 0 0) 0 [] rfl (by exact Hlit.out) ⟨g, 1, none⟩ (n - 1) (cap - 1) (strVs rest) rfl Hlen.out (by exact Hnews.out) Hone.out hcapb (by rw [size_new]; omega) ?_; intro v4 w4 hown4 hg4 _ hat4; have hrow4 := grown_row hg4 Hrowz.out (by simp [Value.ownBlock]; omega); have hb4 : Below w.heap.size w w4 := hzb.grown hg4 hzb.size (by intro k hk; simp [Value.ownBlock] at hk; omega); have r0 := (cells_of_row hrow4).1 0; have r1 := (cells_of_row hrow4).1 1; have r2 := (cells_of_row hrow4).1 2; have q0 := (cells_of_row hrow4).2 0; have q1 := (cells_of_row hrow4).2 1; have q2 := (cells_of_row hrow4).2 2; simp at r0 r1 r2; clear hg4 hat4 hrow4; obtain ⟨A4, c4, rfl⟩ := own_slice hown4)
        refine bodyPost_ret (v := .tuple #[.agg #[.int .i64 a, .int .i64 b, .slice A4 (0 + (n - 1)) c4], .bool true]) (by simp [results, Tryz.results53, go_sem, r0, r1, r2]) rfl (Hgood.out _ _ ?_ ?_)
        · exact own_base (ownsRow_setCell_below (ownsRow_setCell_below (ownsRow_setCell_below hown4 hne3 _) hne3 _) hne3 _) (by omega)
        · exact ((hb4.setCell (by simp) _).setCell (by simp) _).setCell (by simp) _

set_option maxRecDepth 100000 in
theorem record_long_true (g n cap : Nat) (f0 : Sp.Str) (rest : List Sp.Str) (base : Nat) (w : World) (hn : Hid (n = rest.length + 1)) (hn2 : 2 ≤ n) (hsmall : n * 16 ≤ 140737488355328)
    (hown : w.ownsRow base 9 1 (.slice (some ⟨g, 0, none⟩) n cap) n (strVs (f0 :: rest))) (hE : Env w)
    (hl0 : f0.length < 4294967281) (ha : ∀ b ∈ f0, b.toNat < 128) (htwo : (Lib.cut f0 [46, 46]).2.2 = true) : Calls Tryz.prog 53 #[.slice (some ⟨g, 0, none⟩) n cap] w (RecordSaid (f0 :: rest) w) := by
  have hc0 : w.cell? ⟨g, 0, none⟩ = some (.string ⟨f0.toArray⟩) := hown.cellAt 0 (by omega)
  have hgl : g < w.heap.size := block_lt_of_cell hc0
  have hnc : n ≤ cap := by
    obtain ⟨g', cap', he, _, _, h1, h2⟩ := own_form hown (by omega)
    injection he with _ _ h3
    omega
  have hcm : cap ≤ 9223372036854775807 := by
    obtain ⟨g', cap', he, _, _, h1, h2⟩ := own_form hown (by omega)
    injection he with _ _ h3
    unfold maxLen at h2
    omega
  obtain ⟨m, hm⟩ := hE
  have hm1 : (w.alloc (Obj.cells #[Value.int IntKind.i64 0, Value.int IntKind.i64 0, Value.slice none 0 0] 56)).cell? ⟨2, 0, none⟩ = some (.int .i64 m) := cell_later ((Below.refl _ _).alloc (Nat.le_refl _) _) hm
  obtain ⟨c, hc⟩ : ∃ c, c = Lib.cut f0 [46, 46] := ⟨_, rfl⟩
  have hmem := cut_mem f0 [46, 46]
  rw [← hc] at hmem
  have hcut := Tryz.strings_Cut ⟨f0.toArray⟩ ⟨#[46, 46]⟩ m _ hl0 hm1
  have hc' : Lib.cut (ByteArray.mk f0.toArray).data.toList (ByteArray.mk #[46, 46]).data.toList = c := hc.symm
  rw [hc'] at hcut
  have Hc := Lib.hid hc
  obtain ⟨lo, hi, two⟩ := c
  obtain rfl : two = true := by rw [← Hc.out] at htwo; exact htwo
  clear htwo
  have ha1 : ∀ b ∈ lo, b.toNat < 128 := fun b hb => ha b (hmem.1 b hb)
  have ha2 : ∀ b ∈ hi, b.toNat < 128 := by
    intro b hb
    exact ha b (hmem.2 b hb)
  have HA1 := Lib.hid ha1
  have HA2 := Lib.hid ha2
  have HCut := Lib.hid hcut
  clear hc hc' hmem hcut ha1 ha2 hm1 ha hm
  go_enter Tryz.func53, Tryz.ntmps53
  go_wp2_with fail
  refine HCut.out.mono ?_
  rintro e w' ⟨rfl, q, rfl⟩
  obtain ⟨W1, hW1⟩ : ∃ W1, W1 = (w.alloc (Obj.cells #[Value.int IntKind.i64 0, Value.int IntKind.i64 0, Value.slice none 0 0] 56)).drewN q := ⟨_, rfl⟩
  have hB1 : Below w.heap.size w W1 := by subst hW1; exact ((Below.refl _ _).alloc (Nat.le_refl _) _).trans (below_drewN _ q |>.mono (by rw [size_new]; omega))
  have hrow : W1.heap[w.heap.size]? = some (Obj.cells #[Value.int IntKind.i64 0, Value.int IntKind.i64 0, Value.slice none 0 0] 56) := by subst hW1; exact row_new w _
  have hsz1 : W1.heap.size = w.heap.size + 1 := by subst hW1; exact size_new w _
  have hown1 := own_below hown hB1
  rw [← hW1]
  have hbad : Sp.record (f0 :: rest) = none → ∀ w4 : World, Below w.heap.size w w4 → RecordSaid (f0 :: rest) w (.returned (.tuple #[.agg #[.int .i64 0, .int .i64 0, .slice none 0 0], .bool false])) w4 := fun h w4 hb => by
    refine ⟨hb, ?_⟩
    rw [h]
  have Hbad := Lib.hid hbad
  clear hW1 HCut hown hc0 hbad
  cases hA : Sp.hex lo
  case none =>
    have hRec : Sp.record (f0 :: rest) = none := by
      cases rest with
      | nil => rfl
      | cons f1 rest => unfold Sp.record; simp only [← Hc.out, hA]
    have HA := Lib.hid hA
    have HRec := Lib.hid hRec
    clear hA hRec
    go_wp2_with fail
    refine (hex_none HA.out _ HA1.out).mono ?_
    rintro e w2 ⟨rfl, hb2⟩
    go_wp2_with fail
    refine (hex_walk' _ _ HA2.out).mono ?_
    rintro e w3 ⟨rfl, hb3⟩
    have hb : Below W1.heap.size W1 w3 := hb2.trans (hb3.mono hb2.size)
    have hrow3 := (hb.block w.heap.size (by omega)).trans hrow
    have r0 := (cells_of_row hrow3).1 0
    have r1 := (cells_of_row hrow3).1 1
    have r2 := (cells_of_row hrow3).1 2
    have q0 := (cells_of_row hrow3).2 0
    have q1 := (cells_of_row hrow3).2 1
    have q2 := (cells_of_row hrow3).2 2
    have hb' : Below w.heap.size w w3 := hB1.trans (hb.mono hB1.size)
    simp at r0 r1 r2
    clear hb2 hb3 hrow hrow3 hb hB1 hown1
    go_wp2_with fail
    refine bodyPost_ret (v := .tuple #[.agg #[.int .i64 0, .int .i64 0, .slice none 0 0], .bool false]) (by simp [results, Tryz.results53, go_sem, r0, r1, r2]) rfl (Hbad.out HRec.out _ ?_)
    exact ((hb'.setCell (by simp) _).setCell (by simp) _).setCell (by simp) _
  case some a =>
    have HA := Lib.hid hA
    have hale := hex_le hA
    clear hA
    go_wp2_with fail
    refine (hex_some HA.out _ HA1.out).mono ?_
    rintro e w2 ⟨rfl, hb2⟩
    cases hB : Sp.hex hi
    case none =>
      have hRec : Sp.record (f0 :: rest) = none := by
        cases rest with
        | nil => rfl
        | cons f1 rest => unfold Sp.record; simp only [← Hc.out, HA.out]; simp [hB]
      have HB := Lib.hid hB
      have HRec := Lib.hid hRec
      clear hB hRec
      go_wp2_with fail
      refine (hex_none HB.out _ HA2.out).mono ?_
      rintro e w3 ⟨rfl, hb3⟩
      have hb : Below W1.heap.size W1 w3 := hb2.trans (hb3.mono hb2.size)
      have hrow3 := (hb.block w.heap.size (by omega)).trans hrow
      have r0 := (cells_of_row hrow3).1 0
      have r1 := (cells_of_row hrow3).1 1
      have r2 := (cells_of_row hrow3).1 2
      have q0 := (cells_of_row hrow3).2 0
      have q1 := (cells_of_row hrow3).2 1
      have q2 := (cells_of_row hrow3).2 2
      have hb' : Below w.heap.size w w3 := hB1.trans (hb.mono hB1.size)
      simp at r0 r1 r2
      clear hb2 hb3 hrow hrow3 hb hB1 hown1
      go_wp2_with fail
      refine bodyPost_ret (v := .tuple #[.agg #[.int .i64 0, .int .i64 0, .slice none 0 0], .bool false]) (by simp [results, Tryz.results53, go_sem, r0, r1, r2]) rfl (Hbad.out HRec.out _ ?_)
      exact ((hb'.setCell (by simp) _).setCell (by simp) _).setCell (by simp) _
    case some b =>
      have HB := Lib.hid hB
      have hble := hex_le hB
      clear hB
      go_wp2_with fail
      refine (hex_some HB.out _ HA2.out).mono ?_
      rintro e w3 ⟨rfl, hb3⟩
      by_cases hba : b < a
      case pos =>
        have hRec : Sp.record (f0 :: rest) = none := by
          cases rest with
          | nil => rfl
          | cons f1 rest => unfold Sp.record; simp only [← Hc.out, HA.out]; simp [HB.out, hba]
        have HRec := Lib.hid hRec
        clear hRec
        have hb : Below W1.heap.size W1 w3 := hb2.trans (hb3.mono hb2.size)
        have hrow3 := (hb.block w.heap.size (by omega)).trans hrow
        have r0 := (cells_of_row hrow3).1 0
        have r1 := (cells_of_row hrow3).1 1
        have r2 := (cells_of_row hrow3).1 2
        have q0 := (cells_of_row hrow3).2 0
        have q1 := (cells_of_row hrow3).2 1
        have q2 := (cells_of_row hrow3).2 2
        have hb' : Below w.heap.size w w3 := hB1.trans (hb.mono hB1.size)
        simp at r0 r1 r2
        clear hb2 hb3 hrow hrow3 hb hB1 hown1
        go_wp2_with fail
        refine bodyPost_ret (v := .tuple #[.agg #[.int .i64 0, .int .i64 0, .slice none 0 0], .bool false]) (by simp [results, Tryz.results53, go_sem, r0, r1, r2]) rfl (Hbad.out HRec.out _ ?_)
        exact ((hb'.setCell (by simp) _).setCell (by simp) _).setCell (by simp) _
      case neg =>
        have hlt : decide (b < a) = false := by simp; omega
        have hb : Below W1.heap.size W1 w3 := hb2.trans (hb3.mono hb2.size)
        have hrow3 := (hb.block w.heap.size (by omega)).trans hrow
        have r0 := (cells_of_row hrow3).1 0
        have r1 := (cells_of_row hrow3).1 1
        have r2 := (cells_of_row hrow3).1 2
        have q0 := (cells_of_row hrow3).2 0
        have q1 := (cells_of_row hrow3).2 1
        have q2 := (cells_of_row hrow3).2 2
        have hb' : Below w.heap.size w w3 := hB1.trans (hb.mono hB1.size)
        simp at r0 r1 r2
        have hown3 := own_below hown1 hb
        have hlit : (w3.alloc (Obj.cells #[] 9)).ownsRow w3.heap.size 9 1 (.slice (some ⟨w3.heap.size, 0, none⟩) 0 0) 0 [] := World.ownsRow_lit (size := 1) w3 #[] 0 (Nat.le_refl _) (by decide) rfl
        have hnews : ∀ j u, (strVs rest)[j]? = some u → (w3.alloc (Obj.cells #[] 9)).cell? ((⟨g, 1, none⟩ : Addr).add j) = some u := fun j u hu => by
          rw [add_plain]; exact own_cell (hown3.alloc (Obj.cells #[] 9)) (1 + j) u (by rw [Nat.add_comm]; exact hu)
        have hlen : (strVs rest).length = (n - 1) * 1 := by have := hn.out; unfold strVs; rw [List.length_map]; omega
        have hone : ∀ u ∈ strVs rest, u.oneCell' = true := fun u hu => by obtain ⟨x, _, rfl⟩ := List.mem_map.1 hu; rfl
        have hgood : ∀ v w4, w4.ownsRow w.heap.size 9 1 v (0 + (n - 1)) ([] ++ strVs rest) → Below w.heap.size w w4 → RecordSaid (f0 :: rest) w (.returned (.tuple #[.agg #[.int .i64 a, .int .i64 b, v], .bool true])) w4 := fun v w4 h1 h2 => by
          refine ⟨h2, ?_⟩
          have hRec : Sp.record (f0 :: rest) = some ⟨a, b, rest⟩ := by
            cases rest with
            | nil => have := hn.out; simp at this; omega
            | cons f1 rest => unfold Sp.record; simp only [← Hc.out, HA.out]; simp [HB.out, hba]
          rw [hRec]
          refine ⟨v, rfl, ?_⟩
          have e : 0 + (n - 1) = rest.length := by have := hn.out; omega
          rw [e] at h1
          exact h1
        have hzb : Below w.heap.size w (w3.alloc (Obj.cells #[] 9)) := hb'.alloc hb'.size _
        have Hlit := Lib.hid hlit
        have Hnews := Lib.hid hnews
        have Hlen := Lib.hid hlen
        have Hone := Lib.hid hone
        have Hgood := Lib.hid hgood
        have hcapb : (0 + (n - 1)) * 16 ≤ 140737488355328 := by have := hsmall; omega
        have hne3 : w.heap.size < w3.heap.size := by have := hb.size; omega
        have hrowz := alloc_row hrow3 (Obj.cells #[] 9)
        have Hrowz := Lib.hid hrowz
        clear hb2 hb3 hrow hrow3 hrowz hb hB1 hown1 hba Hbad hlit hnews hlen hone hgood hb' r0 r1 r2 q0 q1 q2
        go_wp2_with (at_builtin; refine wp_append _ slStr rfl (.tmp 50) (.tmp 52) rfl w3.heap.size (.slice (some ⟨w3.heap.size, 0, none⟩) 0 0) 0 [] rfl (by exact Hlit.out) ⟨g, 1, none⟩ (n - 1) (cap - 1) (strVs rest) rfl Hlen.out (by exact Hnews.out) Hone.out hcapb (by rw [size_new]; omega) ?_; intro v4 w4 hown4 hg4 _ hat4; have hrow4 := grown_row hg4 Hrowz.out (by simp [Value.ownBlock]; omega); have hb4 : Below w.heap.size w w4 := hzb.grown hg4 hzb.size (by intro k hk; simp [Value.ownBlock] at hk; omega); have r0 := (cells_of_row hrow4).1 0; have r1 := (cells_of_row hrow4).1 1; have r2 := (cells_of_row hrow4).1 2; have q0 := (cells_of_row hrow4).2 0; have q1 := (cells_of_row hrow4).2 1; have q2 := (cells_of_row hrow4).2 2; simp at r0 r1 r2; clear hg4 hat4 hrow4; obtain ⟨A4, c4, rfl⟩ := own_slice hown4)
        refine bodyPost_ret (v := .tuple #[.agg #[.int .i64 a, .int .i64 b, .slice A4 (0 + (n - 1)) c4], .bool true]) (by simp [results, Tryz.results53, go_sem, r0, r1, r2]) rfl (Hgood.out _ _ ?_ ?_)
        · exact own_base (ownsRow_setCell_below (ownsRow_setCell_below (ownsRow_setCell_below hown4 hne3 _) hne3 _) hne3 _) (by omega)
        · exact ((hb4.setCell (by simp) _).setCell (by simp) _).setCell (by simp) _

theorem record_walk (v : Value) (fs : List Sp.Str) (base : Nat) (w : World) (hown : w.ownsRow base 9 1 v fs.length (strVs fs)) (hE : Env w) (hsmall : fs.length * 16 ≤ 140737488355328)
    (ha : ∀ f ∈ fs, f.length < 4294967281 ∧ ∀ b ∈ f, b.toNat < 128) : Calls Tryz.prog 53 #[v] w (RecordSaid fs w) := by
  match fs, hown, hsmall, ha with
  | [], hown, _, ha =>
    obtain ⟨A, c, rfl⟩ := own_slice hown
    exact (record_short A _ c (by simp) w).mono fun e w' ⟨h1, h2⟩ => ⟨h2, h1⟩
  | [f0], hown, _, ha =>
    obtain ⟨A, c, rfl⟩ := own_slice hown
    exact (record_short A _ c (by simp) w).mono fun e w' ⟨h1, h2⟩ => ⟨h2, h1⟩
  | f0 :: f1 :: rest, hown, hsmall, ha =>
    obtain ⟨g, cap, rfl, hbg, hgl, hnc, hcm⟩ := own_form hown (by simp)
    obtain ⟨h1, h2⟩ := ha f0 (by simp)
    cases htwo : (Lib.cut f0 [46, 46]).2.2
    · exact record_long_false g _ cap f0 (f1 :: rest) base w (Lib.hid rfl) (by simp) hsmall hown hE h1 h2 htwo
    · exact record_long_true g _ cap f0 (f1 :: rest) base w (Lib.hid rfl) (by simp) hsmall hown hE h1 h2 htwo
end Go.Proofs.YtchkckfadennhaaGreatDoor
namespace Go.Proofs.YtchkckfadennhaaGreatDoor
open Go.RowKit
set_option linter.unusedVariables false

namespace Sp
def parseGo : List Str → Option (List Rec)
  | [] => some []
  | l :: ls => if fields l = [] then parseGo ls else match record (fields l) with | none => none | some r => (parseGo ls).map (r :: ·)
def parse (t : Str) : Option (List Rec) := parseGo (Lib.split t [10])
theorem split_mem (l sep : Str) : ∀ p ∈ Lib.split l sep, p.length ≤ l.length ∧ ∀ b ∈ p, b ∈ l := by
  have h : ∀ (k : Nat) (l p : Str), p ∈ Lib.splitK sep 0 k l → p.length ≤ l.length ∧ ∀ b ∈ p, b ∈ l := by
    intro k
    induction k with
    | zero => intro l p h; simp [Lib.splitK] at h; subst h; exact ⟨Nat.le_refl _, fun _ h => h⟩
    | succ k ih =>
      intro l p h
      unfold Lib.splitK at h
      split at h
      · simp at h; subst h; exact ⟨Nat.le_refl _, fun _ h => h⟩
      · rcases List.mem_cons.1 h with rfl | h
        · exact ⟨List.length_take_le' _ _, fun b hb => List.mem_of_mem_take hb⟩
        · obtain ⟨h1, h2⟩ := ih _ p h
          refine ⟨?_, fun b hb => List.mem_of_mem_drop (h2 b hb)⟩
          simp at h1
          omega
  exact fun p hp => h _ _ p hp
theorem trim_mem (l : Str) : (trim l).length ≤ l.length ∧ ∀ b ∈ trim l, b ∈ l := by
  refine ⟨trimS_le _ _, fun b hb => ?_⟩
  unfold trim Lib.trimS Lib.trimLeftS Lib.trimRightS at hb
  have h1 := (List.dropWhile_sublist _).subset hb
  rw [List.mem_reverse] at h1
  have h2 := (List.dropWhile_sublist _).subset h1
  rwa [List.mem_reverse] at h2
theorem fields_mem (l : Str) : ∀ f ∈ fields l, f.length ≤ l.length ∧ ∀ b ∈ f, b ∈ l := by
  intro f hf
  unfold fields at hf
  split at hf
  · simp at hf
  · obtain ⟨p, hp, rfl⟩ := List.mem_map.1 hf
    have h1 := split_mem _ _ p hp
    have h2 := trim_mem p
    have h3 := trim_mem (Lib.cut l [35]).1
    have h4 := (cut_mem l [35]).1
    have h5 : (Lib.cut l [35]).1.length ≤ l.length := by unfold Lib.cut; split <;> simp; omega
    unfold line at h1
    exact ⟨by omega, fun b hb => h4 b (h3.2 b (h1.2 b (h2.2 b hb)))⟩
end Sp

theorem Sp.split_length (l : List UInt8) (c : UInt8) : (Lib.split l [c]).length ≤ l.length + 1 := by
  have h1 := Lib.splitB_data ⟨#[c]⟩ 0 (Lib.countB ⟨l.toArray⟩ ⟨#[c]⟩) ⟨l.toArray⟩
  have h2 := Lib.splitB_length_le ⟨#[c]⟩ 0 (Lib.countB ⟨l.toArray⟩ ⟨#[c]⟩) ⟨l.toArray⟩
  have h3 := Lib.countB_le ⟨#[c]⟩ (Nat.le_refl 1) _ ⟨l.toArray⟩ (Nat.le_refl _)
  have h4 := congrArg List.length h1
  rw [List.length_map] at h4
  have h5 : (Lib.split l [c]).length = (Lib.splitK [c] 0 (Lib.countB ⟨l.toArray⟩ ⟨#[c]⟩) l).length := rfl
  have h6 : (ByteArray.mk l.toArray).size = l.length := List.size_toArray
  have h7 : (Lib.splitK (ByteArray.mk #[c]).data.toList 0 (Lib.countB ⟨l.toArray⟩ ⟨#[c]⟩) (ByteArray.mk l.toArray).data.toList).length = (Lib.splitK [c] 0 (Lib.countB ⟨l.toArray⟩ ⟨#[c]⟩) l).length := rfl
  omega
theorem Sp.fields_length (l : List UInt8) : (Sp.fields l).length ≤ l.length + 1 := by
  unfold Sp.fields
  split
  · simp
  · rw [List.length_map]
    have h1 := Sp.split_length (Sp.line l) 59
    have h3 := Sp.trim_mem (Lib.cut l [35]).1
    have h5 : (Lib.cut l [35]).1.length ≤ l.length := by unfold Lib.cut; split <;> simp; omega
    unfold Sp.line at h1 ⊢
    omega
def recCells : List Rec → List Value → List Value
  | r :: rs, v :: vs => .int .i64 r.lo :: .int .i64 r.hi :: v :: recCells rs vs
  | _, _ => []
theorem recCells_snoc : ∀ (rs : List Rec) (vs : List Value) (r : Rec) (v : Value), rs.length = vs.length → recCells (rs ++ [r]) (vs ++ [v]) = recCells rs vs ++ [.int .i64 r.lo, .int .i64 r.hi, v]
  | [], [], r, v, _ => rfl
  | a :: rs, b :: vs, r, v, h => by simp [recCells, recCells_snoc rs vs r v (by simpa using h)]
  | [], _ :: _, _, _, h => by simp at h
  | _ :: _, [], _, _, h => by simp at h
theorem slRec : SlT Tryz.prog 52 56 3 40 := ⟨Tryz.underlying52, by kernel_rfl, by decide, by decide⟩
/-- v is a row of one's own that holds the records. -/
structure RecsAt (w : World) (base : Nat) (v : Value) (rs : List Rec) (fv : List Value) : Prop where
  len : rs.length = fv.length
  row : w.ownsRow base 56 3 v rs.length (recCells rs fv)
  fld : ∀ (i : Nat) r u, rs[i]? = some r → fv[i]? = some u → w.ownsRow base 9 1 u r.fields.length (strVs r.fields)
theorem RecsAt.below {w w' : World} {base : Nat} {v : Value} {rs : List Rec} {fv : List Value} (h : RecsAt w base v rs fv) (hb : Below w.heap.size w w') : RecsAt w' base v rs fv :=
  ⟨h.len, own_below h.row hb, fun i r u h1 h2 => own_below (h.fld i r u h1 h2) hb⟩
theorem RecsAt.snoc {w w' : World} {base : Nat} {v v' : Value} {rs : List Rec} {fv : List Value} (h : RecsAt w base v rs fv) {r : Rec} {u : Value} (hu : w.ownsRow base 9 1 u r.fields.length (strVs r.fields))
    (hr : w'.ownsRow base 56 3 v' (rs.length + 1) (recCells rs fv ++ [.int .i64 r.lo, .int .i64 r.hi, u])) (hg : w.grownBy w' v.ownBlock) : RecsAt w' base v' (rs ++ [r]) (fv ++ [u]) := by
  refine ⟨by simp [h.len], by rw [recCells_snoc _ _ _ _ h.len]; simpa using hr, fun i r' u' h1 h2 => ?_⟩
  have key : ∀ (u : Value) (r : Rec), w.ownsRow base 9 1 u r.fields.length (strVs r.fields) → w'.ownsRow base 9 1 u r.fields.length (strVs r.fields) := fun u r h' => h'.kept hg (own_types h' h.row (by decide))
  by_cases hi : i < rs.length
  · rw [List.getElem?_append_left hi] at h1
    rw [List.getElem?_append_left (by rw [← h.len]; exact hi)] at h2
    exact key _ _ (h.fld i r' u' h1 h2)
  · have hil : i = rs.length := by
      have := (List.getElem?_eq_some_iff.1 h1).1
      simp at this
      omega
    subst hil
    rw [List.getElem?_append_right (Nat.le_refl _)] at h1
    rw [h.len, List.getElem?_append_right (Nat.le_refl _)] at h2
    simp at h1 h2
    subst h1 h2
    exact key _ _ hu

def ParseSaid (recs : List Rec) (w : World) (e : Ending) (w' : World) : Prop :=
  ∃ v fv, e = .returned (.tuple #[v, .int .i64 0, .int .i64 0]) ∧ RecsAt w' w.heap.size v recs fv ∧ Below w.heap.size w w'
/-- Lines that are still to come, records that are. -/
def ParseLeft (ps : List ByteArray) (k : Nat) (recs rs : List Rec) : Prop := ∃ rest, Sp.parseGo ((ps.drop k).map (·.data.toList)) = some rest ∧ recs = rs ++ rest
theorem ParseLeft.skip {ps : List ByteArray} {k : Nat} {recs rs : List Rec} (h : ParseLeft ps k recs rs) (hk : k < ps.length) (hf : Sp.fields ps[k].data.toList = []) : ParseLeft ps (k + 1) recs rs := by
  obtain ⟨rest, h1, h2⟩ := h
  rw [List.drop_eq_getElem_cons hk, List.map_cons, Sp.parseGo, if_pos hf] at h1
  exact ⟨rest, h1, h2⟩
theorem ParseLeft.take {ps : List ByteArray} {k : Nat} {recs rs : List Rec} (h : ParseLeft ps k recs rs) (hk : k < ps.length) (hf : Sp.fields ps[k].data.toList ≠ []) : ∃ r, Sp.record (Sp.fields ps[k].data.toList) = some r ∧ ParseLeft ps (k + 1) recs (rs ++ [r]) := by
  obtain ⟨rest, h1, h2⟩ := h
  rw [List.drop_eq_getElem_cons hk, List.map_cons, Sp.parseGo, if_neg hf] at h1
  cases hr : Sp.record (Sp.fields ps[k].data.toList) with
  | none => rw [hr] at h1; simp at h1
  | some r =>
    rw [hr] at h1
    simp only [Option.map_eq_some_iff] at h1
    obtain ⟨rest', h3, rfl⟩ := h1
    exact ⟨r, rfl, rest', h3, by rw [h2]; simp⟩
theorem ParseLeft.done {ps : List ByteArray} {recs rs : List Rec} (h : ParseLeft ps ps.length recs rs) : recs = rs := by
  obtain ⟨rest, h1, h2⟩ := h
  rw [List.drop_of_length_le (Nat.le_refl _)] at h1
  simp [Sp.parseGo] at h1
  simp [h2, h1]
theorem ParseLeft.le {ps : List ByteArray} {k : Nat} {recs rs : List Rec} (h : ParseLeft ps k recs rs) : rs.length ≤ recs.length := by
  obtain ⟨rest, h1, h2⟩ := h
  rw [h2]; simp

set_option maxRecDepth 100000 in
theorem parse_walk (s : ByteArray) (recs : List Rec) (w : World) (hs : s.size < 1000000) (ha : ∀ b ∈ s.data.toList, b.toNat < 128) (hp : Sp.parse s.data.toList = some recs) (hE : Env w) :
    Calls Tryz.prog 23 #[.string s] w (ParseSaid recs w) := by
  have Ha := Lib.hid ha
  have Hp := Lib.hid hp
  clear ha hp
  have hnil := fun (w : World) (A : Option Addr) (n c : Nat) => Lib.run_eql_slice_nil (P := Tryz.prog) w 25 9 A n c 0 0 Tryz.underlying25
  go_enter Tryz.func23, Tryz.ntmps23
  go_wp2_with fail
  go_step3
  go_wp2_with fail
  go_step3
  go_wp2_with fail
  refine (split_one s 10 w (by omega) hE).mono ?_
  rintro e w1 ⟨ps, rfl, hps, hp1, hpn, hpl, hw1⟩
  have hown : w1.ownsRow w.heap.size 9 1 (.slice (some ⟨w.heap.size, 0, none⟩) ps.length ps.length) ps.length (ps.map Value.string) := by
    subst hw1
    have := World.ownsRow_lit (base := w.heap.size) (e := 9) (size := 1) w (ps.map Value.string).toArray ps.length (Nat.le_refl _) (by unfold maxLen; omega) (by simp)
    simpa using this
  have hb1 : Below w.heap.size w w1 := by subst hw1; exact (Below.refl _ _).alloc (Nat.le_refl _) _
  have hE1 := hE.below hb1
  have hleft : ParseLeft ps 0 recs [] := ⟨recs, by rw [List.drop_zero, hps.out]; exact Hp.out, rfl⟩
  have hascii : ∀ p ∈ ps, ∀ b ∈ p.data.toList, b.toNat < 128 := fun p hp b hb => Ha.out b ((Sp.split_mem _ _ p.data.toList (by rw [← hps.out]; exact List.mem_map_of_mem hp)).2 b hb)
  have Hascii := Lib.hid hascii
  have Hleft := Lib.hid hleft
  have hw0 : w.heap.size < w1.heap.size := by subst hw1; rw [size_new]; omega
  clear hw1 hE Hp Ha hascii hleft
  go_wp2_with fail
  have hown1 : RecsAt w1 w1.heap.size (.slice none 0 0) [] [] := ⟨rfl, World.ownsRow_nil _ _ _ _, fun i r u h => by simp at h⟩
  go_loopw [5, 14] (fun v i wr => ∃ (k : Nat) (rs : List Rec) (fv : List Value), k ≤ ps.length ∧ i = .int .i64 k ∧ RecsAt wr w1.heap.size v rs fv ∧ Hid (ParseLeft ps k recs rs) ∧ rs.length ≤ k ∧ Below w1.heap.size w1 wr) (fun _ i _ => ps.length - (intOf i).toNat)
  case atStart => exact ⟨0, [], [], by omega, rfl, hown1, Hleft, by simp, Below.refl _ _⟩
  case round =>
    obtain ⟨k, rs, fv, hk, rfl, hR, hL, hrl, hbk⟩ := hrel
    clear hown1 Hleft
    by_cases hlt : k < ps.length
    · have hc : wr.cell? ⟨w.heap.size, k, none⟩ = some (.string ps[k]) := (hbk.cell (p := ⟨_, _, _⟩) (by simpa using hw0)).trans ((hown.cellAt k (by omega)).trans (by simp [hlt]))
      have hEk := hE1.below hbk
      have hpk := hpl ps[k] (List.getElem_mem _)
      go_wp2_with fail
      refine (fields_walk ps[k] wr (by omega) hEk).mono ?_
      rintro e w2 ⟨vf, rfl, hown2, hb2, hnilv⟩
      by_cases hf : Sp.fields ps[k].data.toList = []
      · obtain rfl := hnilv hf
        have hL2 := Lib.hid (hL.out.skip hlt hf)
        have hR2 := hR.below hb2
        have hb2' := hbk.trans (hb2.mono hbk.size)
        clear hR hL hbk hb2 hc hEk hnilv hown2 hf hpk
        go_wp2_with fail
        go_roundw
        case rel => exact ⟨k + 1, rs, fv, by omega, by go_num, hR2, hL2, by omega, hb2'⟩
        case measure => simp [intOf]; omega
      · have hfl := Sp.fields_length ps[k].data.toList
        have hmem : ∀ f ∈ Sp.fields ps[k].data.toList, f.length < 4294967281 ∧ ∀ b ∈ f, b.toNat < 128 := fun f hf => by
          obtain ⟨h1, h2⟩ := Sp.fields_mem _ f hf
          rw [blen] at h1
          exact ⟨by omega, fun b hb => Hascii.out _ (List.getElem_mem _) b (h2 b hb)⟩
        have Hmem := Lib.hid hmem
        obtain ⟨r, hrec, hL2⟩ := hL.out.take hlt hf
        have HL2 := Lib.hid hL2
        have Hrec := Lib.hid hrec
        have hR2 := hR.below hb2
        have hb2' := hbk.trans (hb2.mono hbk.size)
        have hE2 := hEk.below hb2
        have hf0 : 0 < (Sp.fields ps[k].data.toList).length := List.length_pos_iff.2 hf
        have hfs : (Sp.fields ps[k].data.toList).length * 16 ≤ 140737488355328 := by
          rw [blen] at hfl
          omega
        obtain ⟨g2, c2, rfl, _, _, _, _⟩ := own_form hown2 hf0
        have hrw := record_walk _ _ _ w2 hown2 hE2 hfs Hmem.out
        have HRW := Lib.hid hrw
        clear hmem hL2 hrec hnilv hL hR hbk hb2 hc hEk hf hpk hfl hown2 hE2 hf0 hfs hrw
        generalize (Sp.fields ps[k].data.toList).length = nf at *
        go_wp2_with fail
        refine HRW.out.mono ?_
        rintro e w3 ⟨hb3, hsaid⟩
        rw [Hrec.out] at hsaid
        obtain ⟨vr, rfl, hvr⟩ := hsaid
        obtain ⟨Ar, cr, rfl⟩ := own_slice hvr
        have hR3 := hR2.below hb3
        have hb3' := hb2'.trans (hb3.mono hb2'.size)
        obtain ⟨X, hX⟩ : ∃ X, X = Obj.cells #[Value.int IntKind.i64 r.lo, Value.int IntKind.i64 r.hi, Value.slice Ar r.fields.length cr] 56 := ⟨_, rfl⟩
        have hR4 : RecsAt ((w3.alloc X).alloc X) w1.heap.size u5 rs fv := (hR3.below ((Below.refl _ _).alloc (Nat.le_refl _) X)).below ((Below.refl _ _).alloc (Nat.le_refl _) X)
        have hvr4 : ((w3.alloc X).alloc X).ownsRow w1.heap.size 9 1 (Value.slice Ar r.fields.length cr) r.fields.length (strVs r.fields) := ((own_base hvr hb2'.size).alloc X).alloc X
        have hnews : ∀ j u, [Value.int IntKind.i64 r.lo, Value.int IntKind.i64 r.hi, Value.slice Ar r.fields.length cr][j]? = some u → ((w3.alloc X).alloc X).cell? ((⟨w3.heap.size + 1, 0, none⟩ : Addr).add j) = some u := fun j u hu => by
          have h1 := row_new (w3.alloc X) X
          rw [size_new, hX] at h1
          rw [add_plain, Nat.zero_add, hX, (cells_of_row h1).1 j]
          simpa using hu
        have hb4 : Below w1.heap.size w1 ((w3.alloc X).alloc X) := (hb3'.alloc hb3'.size X).alloc (by rw [size_new]; have := hb3'.size; omega) X
        have hbytes : (rs.length + 1) * 40 ≤ 140737488355328 := by omega
        rw [hX] at hR4 hvr4 hnews hb4
        have HR4 := Lib.hid hR4
        have Hvr4 := Lib.hid hvr4
        have Hnews := Lib.hid hnews
        have Hb4 := Lib.hid hb4
        clear hX hR4 hvr4 hnews hb4 hvr hR3 hR2 hb2' hb3 hb3'
        go_wp2_with (at_builtin; refine wp_append _ slRec rfl (.tmp 32) (.tmp 34) rfl w1.heap.size u5 rs.length (recCells rs fv) rfl (by exact HR4.out.row) ⟨w3.heap.size + 1, 0, none⟩ 1 1 [.int .i64 r.lo, .int .i64 r.hi, .slice Ar r.fields.length cr] rfl rfl (by exact Hnews.out) (by simp [Value.oneCell']) hbytes (by exact Hb4.out.size) ?_; intro v5 w5 hown5 hg5 _ _; have hR5 := RecsAt.snoc HR4.out Hvr4.out hown5 hg5; have hb5 := Hb4.out.grown hg5 Hb4.out.size (fun k hk => (own_lt HR4.out.row k hk).1); clear hown5 hg5)
        go_roundw
        case rel => exact ⟨k + 1, rs ++ [r], _, by omega, by go_num, hR5, HL2, by simp; omega, hb5⟩
        case measure => simp [intOf]; omega
    · obtain rfl : k = ps.length := by omega
      have hrs := hL.out.done
      have hfin : ParseSaid recs w (.returned (.tuple #[u5, .int .i64 0, .int .i64 0])) wr := by
        subst hrs
        exact ⟨u5, fv, rfl, ⟨hR.len, own_base hR.row hb1.size, fun i r u h1 h2 => own_base (hR.fld i r u h1 h2) hb1.size⟩, hb1.trans (hbk.mono hb1.size)⟩
      clear hR hL hbk hrs hlt hk
      go_wp2_with fail
      rw [Exit.noGoto_ret]
      go_ret3
      exact hfin
end Go.Proofs.YtchkckfadennhaaGreatDoor
namespace Go.Proofs.YtchkckfadennhaaGreatDoor
open Go.RowKit
set_option linter.unusedVariables false

/-- The text that a function of one constant returns. -/
def textOf (f : Func) : ByteArray :=
  match f.body with
  | some (.seq _ (.seq (.region _ ops _) _)) => match ops[0]? with
    | some o => match o.op with
      | .assign (.const (.string s)) => s
      | _ => ⟨#[]⟩
    | none => ⟨#[]⟩
  | _ => ⟨#[]⟩
def recsOf (f : Func) : List Rec := (Sp.parse (textOf f).data.toList).getD []
def goodText (f : Func) : Bool := (Sp.parse (textOf f).data.toList).isSome && decide ((textOf f).size < 1000000) && (textOf f).data.toList.all fun b => decide (b.toNat < 128)
theorem parse_of_good {f : Func} (h : goodText f = true) (w : World) (hE : Env w) : Calls Tryz.prog 23 #[.string (textOf f)] w (ParseSaid (recsOf f) w) := by
  unfold goodText at h
  simp only [Bool.and_eq_true, decide_eq_true_eq, List.all_eq_true] at h
  obtain ⟨⟨h1, h2⟩, h3⟩ := h
  obtain ⟨recs, hr⟩ := Option.isSome_iff_exists.1 h1
  have : recsOf f = recs := by unfold recsOf; rw [hr]; rfl
  rw [this]
  exact parse_walk _ recs w h2 h3 hr hE
theorem good_categories : goodText Tryz.f18 = true := by kernel_rfl
set_option maxRecDepth 100000 in
theorem categories_calls (w : World) : Calls Tryz.prog 18 #[] w fun e w' => e = .returned (.string (textOf Tryz.f18)) ∧ w = w' := by
  go_enter Tryz.func18, Tryz.ntmps18
  go_wp2
  go_ret
  exact ⟨by kernel_rfl, rfl⟩
theorem good_combining : goodText Tryz.f19 = true := by kernel_rfl
set_option maxRecDepth 100000 in
theorem combining_calls (w : World) : Calls Tryz.prog 19 #[] w fun e w' => e = .returned (.string (textOf Tryz.f19)) ∧ w = w' := by
  go_enter Tryz.func19, Tryz.ntmps19
  go_wp2
  go_ret
  exact ⟨by kernel_rfl, rfl⟩
theorem good_scripts : goodText Tryz.f20 = true := by kernel_rfl
set_option maxRecDepth 100000 in
theorem scripts_calls (w : World) : Calls Tryz.prog 20 #[] w fun e w' => e = .returned (.string (textOf Tryz.f20)) ∧ w = w' := by
  go_enter Tryz.func20, Tryz.ntmps20
  go_wp2
  go_ret
  exact ⟨by kernel_rfl, rfl⟩
theorem good_clusters : goodText Tryz.f21 = true := by kernel_rfl
set_option maxRecDepth 100000 in
theorem clusters_calls (w : World) : Calls Tryz.prog 21 #[] w fun e w' => e = .returned (.string (textOf Tryz.f21)) ∧ w = w' := by
  go_enter Tryz.func21, Tryz.ntmps21
  go_wp2
  go_ret
  exact ⟨by kernel_rfl, rfl⟩
theorem good_words : goodText Tryz.f22 = true := by kernel_rfl
set_option maxRecDepth 100000 in
theorem words_calls (w : World) : Calls Tryz.prog 22 #[] w fun e w' => e = .returned (.string (textOf Tryz.f22)) ∧ w = w' := by
  go_enter Tryz.func22, Tryz.ntmps22
  go_wp2
  go_ret
  exact ⟨by kernel_rfl, rfl⟩
theorem good_decompositions : goodText Tryz.f24 = true := by kernel_rfl
set_option maxRecDepth 100000 in
theorem decompositions_calls (w : World) : Calls Tryz.prog 24 #[] w fun e w' => e = .returned (.string (textOf Tryz.f24)) ∧ w = w' := by
  go_enter Tryz.func24, Tryz.ntmps24
  go_wp2
  go_ret
  exact ⟨by kernel_rfl, rfl⟩
theorem good_folding : goodText Tryz.f26 = true := by kernel_rfl
set_option maxRecDepth 100000 in
theorem folding_calls (w : World) : Calls Tryz.prog 26 #[] w fun e w' => e = .returned (.string (textOf Tryz.f26)) ∧ w = w' := by
  go_enter Tryz.func26, Tryz.ntmps26
  go_wp2
  go_ret
  exact ⟨by kernel_rfl, rfl⟩
end Go.Proofs.YtchkckfadennhaaGreatDoor
