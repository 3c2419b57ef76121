/- rubricatorref02, what its functions come to, as plain functions; its records of each file are those that the program reads. No code is walked here. -/
import Derived.Test.YtchkckfadennhaaGreatDoorLin
import Derived.Test.YtchkckfadennhaaGreatDoorTrie
import Derived.Lib.PathFns
import Derived.Laws.Strings3
import Derived.Laws.DeepStrings4
namespace Go.Proofs.YtchkckfadennhaaGreatDoor
open Go.RowKit
set_option linter.unusedVariables false

theorem toB_ext (l : Sp.Str) (a b : Nat) : (⟨l.toArray⟩ : ByteArray).extract a b = ⟨((l.take b).drop a).toArray⟩ := by
  apply ByteArray.ext
  simp [ByteArray.data_extract, List.drop_take]
theorem toB_size (l : Sp.Str) : (⟨l.toArray⟩ : ByteArray).size = l.length := List.size_toArray
theorem toB_ix (l : Sp.Str) (k : Nat) (h : k < (⟨l.toArray⟩ : ByteArray).size) : (⟨l.toArray⟩ : ByteArray)[k] = l.getD k 0 := by
  have h' : k < l.length := by rw [toB_size] at h; exact h
  show l.toArray[k] = _
  simp [List.getD_eq_getElem?_getD, h']
theorem run_byte {P : Program} (w : World) (t : TypeId) (h : P.underlying t = some .string) (l : Sp.Str) (k : Nat) (hk : k < l.length) : (Instr.index t (.string ⟨l.toArray⟩) (.int .i64 (k : Int))).run P w = .ok (.int .u8 ((l.getD k 0).toNat : Int)) w := by
  rw [run_index_string w t _ _ _ h, dif_pos (by rw [toB_size]; omega)]
  simp only [Int.toNat_natCast]
  rw [toB_ix]
theorem run_from {P : Program} (w : World) (t : TypeId) (h : P.underlying t = some .string) (l : Sp.Str) (k : Nat) (hk : k ≤ l.length) : (Instr.slice t (.string ⟨l.toArray⟩) (some (.int .i64 (k : Int))) none none).run P w = .ok (.string ⟨(l.drop k).toArray⟩) w := by
  rw [run_slice_string_from_if w t _ _ _ h, if_pos (by rw [toB_size]; omega), Int.toNat_natCast, toB_ext, toB_size, List.take_length]
theorem run_upto {P : Program} (w : World) (t : TypeId) (h : P.underlying t = some .string) (l : Sp.Str) (k : Nat) (hk : k ≤ l.length) : (Instr.slice t (.string ⟨l.toArray⟩) none (some (.int .i64 (k : Int))) none).run P w = .ok (.string ⟨(l.take k).toArray⟩) w := by
  rw [run_slice_string_to_if w t _ _ _ h, if_pos (by rw [toB_size]; omega), Int.toNat_natCast, toB_ext, List.drop_zero]
theorem run_piece {P : Program} (w : World) (t : TypeId) (h : P.underlying t = some .string) (l : Sp.Str) (a b : Nat) (h1 : a ≤ b) (h2 : b ≤ l.length) : (Instr.slice t (.string ⟨l.toArray⟩) (some (.int .i64 (a : Int))) (some (.int .i64 (b : Int))) none).run P w = .ok (.string ⟨((l.take b).drop a).toArray⟩) w := by
  rw [run_slice_string_if w t _ _ _ _ _ h, if_pos (by rw [toB_size]; omega), if_pos (by omega), Int.toNat_natCast, Int.toNat_natCast, toB_ext]
theorem toB_add (l m : Sp.Str) : (⟨l.toArray⟩ : ByteArray) ++ ⟨m.toArray⟩ = ⟨(l ++ m).toArray⟩ := by
  apply ByteArray.ext
  simp

/-- The append of one element that a literal of one has just been made for. -/
theorem wp_append_lit {P : Program} {W : World} {t e : TypeId} {size bytes : Nat} (T : SlT P t e size bytes) {ops : Array Oper} {rest : List Oper} {o : Oper} {a : Act} {Q : Exit → Act → World → Prop} (hgd : o.guard = none) (s x : Operand)
    (ho : o.op = .call { callee := .builtin .append, args := #[s, x], argTypes := #[t, t] })
    (base : Nat) (v : Value) (n : Nat) (xs : List Value) (hs : a.eval s = v) (hown : W.ownsRow base e size v n xs)
    (cs : Array Value) (hx : a.eval x = .slice (some ⟨W.heap.size, 0, none⟩) 1 1) (hl : cs.size = size) (h1 : ∀ u ∈ cs.toList, u.oneCell' = true)
    (hbytes : (n + 1) * bytes ≤ 140737488355328) (hbase : base ≤ W.heap.size)
    (h : ∀ v' w', w'.ownsRow base e size v' (n + 1) (xs ++ cs.toList) → W.grownBy w' v.ownBlock → wpList P ops Q rest (a.put o.dst v') w') :
    wpList P ops Q (o :: rest) a (W.alloc (.cells cs e)) := by
  have hb := alloc_below W (.cells cs e)
  refine wp_append _ T hgd s x ho base v n xs hs (own_below hown hb) ⟨W.heap.size, 0, none⟩ 1 1 cs.toList hx (by simp [hl]) (fun j u hj => ?_) h1 hbytes (by have := hb.size; omega) (fun v' w' r1 r2 _ _ => h v' w' r1 ⟨r2.os.trans hb.os, r2.tape.trans hb.tape, r2.output.trans hb.output, Nat.le_trans hb.size r2.size, fun k hk hne => (r2.block k (Nat.lt_of_lt_of_le hk hb.size) hne).trans (hb.block k hk)⟩)
  rw [add_plain, Nat.zero_add, (cells_of_row (row_new W _)).1 j]
  simpa using hj

namespace RSp
open Sp
def ws (b : UInt8) : Bool := b == 32 || b == 9
def trimL (l : Str) : Str := l.dropWhile ws
def trimR (l : Str) : Str := (l.reverse.dropWhile ws).reverse
def trim (l : Str) : Str := trimR (trimL l)
def cutGo (by' : UInt8) : Str → Str → List Str
  | cur, [] => [cur]
  | cur, b :: l => if b = by' then cur :: cutGo by' [] l else cutGo by' (cur ++ [b]) l
def cut (l : Str) (b : UInt8) : List Str := cutGo b [] l
def line (l : Str) : Str := trim ((cut l 35).headD [])
def fields (l : Str) : List Str := if line l = [] then [] else (cut (line l) 59).map trim
def dots : Str → Str → Option (Str × Str)
  | pre, a :: b :: l => if a = 46 ∧ b = 46 then some (pre, l) else dots (pre ++ [a]) (b :: l)
  | _, _ => none
def ends (f : Str) : Str × Str := (dots [] f).getD (f, f)
def record (f : List Str) : Option Rec :=
  match f with
  | [] => none
  | [_] => none
  | f0 :: f1 :: rest =>
    match hex (ends f0).1, hex (ends f0).2 with
    | some a, some b => if b < a then none else some ⟨a, b, f1 :: rest⟩
    | _, _ => none
def parseGo : List Str → Option (List Rec)
  | [] => some []
  | l :: ls => if fields l = [] then parseGo ls else match record (fields l) with | none => none | some r => (parseGo ls).map (r :: ·)
def parse (t : Str) : Option (List Rec) := parseGo (cut t 10)
/-! ### points: code points in a text, between blanks -/
def ptsGo : Str → Str → List Nat
  | cur, [] => (hex cur).toList
  | cur, b :: l => if b = 32 then (hex cur).toList ++ ptsGo [] l else ptsGo (cur ++ [b]) l
def pts (l : Str) : List Nat := ptsGo [] l
theorem cutGo_ne (b : UInt8) : ∀ (l cur : Str), cutGo b cur l ≠ []
  | [], cur => by simp [cutGo]
  | x :: l, cur => by
    unfold cutGo
    split
    · simp
    · exact cutGo_ne b l _
theorem cut_ne (l : Str) (b : UInt8) : cut l b ≠ [] := cutGo_ne b l []
theorem cutGo_mem (b : UInt8) : ∀ (l cur : Str), ∀ p ∈ cutGo b cur l, p.length ≤ cur.length + l.length ∧ ∀ x ∈ p, x ∈ cur ∨ x ∈ l
  | [], cur, p, h => by
    simp [cutGo] at h
    subst h
    exact ⟨by simp, fun x hx => .inl hx⟩
  | y :: l, cur, p, h => by
    unfold cutGo at h
    split at h
    · rcases List.mem_cons.1 h with rfl | h
      · exact ⟨by simp, fun x hx => .inl hx⟩
      · obtain ⟨h1, h2⟩ := cutGo_mem b l [] p h
        refine ⟨by simp at h1 ⊢; omega, fun x hx => ?_⟩
        rcases h2 x hx with h | h
        · cases h
        · exact .inr (List.mem_cons_of_mem _ h)
    · obtain ⟨h1, h2⟩ := cutGo_mem b l _ p h
      refine ⟨by simp at h1 ⊢; omega, fun x hx => ?_⟩
      rcases h2 x hx with h | h
      · rcases List.mem_append.1 h with h | h
        · exact .inl h
        · right
          obtain rfl : x = y := by simpa using h
          exact List.mem_cons_self
      · exact .inr (List.mem_cons_of_mem _ h)
theorem cut_mem (l : Str) (b : UInt8) (p : Str) (h : p ∈ cut l b) : p.length ≤ l.length ∧ ∀ x ∈ p, x ∈ l := by
  obtain ⟨h1, h2⟩ := cutGo_mem b l [] p h
  refine ⟨by simpa using h1, fun x hx => ?_⟩
  rcases h2 x hx with h | h
  · cases h
  · exact h
theorem cutGo_len (b : UInt8) : ∀ (l cur : Str), (cutGo b cur l).length ≤ l.length + 1
  | [], cur => by simp [cutGo]
  | y :: l, cur => by
    unfold cutGo
    split
    · have := cutGo_len b l []
      simp
      omega
    · have := cutGo_len b l (cur ++ [y])
      simp
      omega
theorem cut_len (l : Str) (b : UInt8) : (cut l b).length ≤ l.length + 1 := cutGo_len b l []
theorem trimL_mem (l : Str) : (trimL l).length ≤ l.length ∧ ∀ b ∈ trimL l, b ∈ l := by
  unfold trimL
  have h := List.dropWhile_sublist ws (l := l)
  exact ⟨h.length_le, fun b hb => h.subset hb⟩
theorem trimR_mem (l : Str) : (trimR l).length ≤ l.length ∧ ∀ b ∈ trimR l, b ∈ l := by
  unfold trimR
  have h := List.dropWhile_sublist ws (l := l.reverse)
  refine ⟨by have := h.length_le; simpa using this, fun b hb => ?_⟩
  have := h.subset (List.mem_reverse.1 hb)
  exact List.mem_reverse.1 this
theorem trim_mem (l : Str) : (trim l).length ≤ l.length ∧ ∀ b ∈ trim l, b ∈ l := by
  have h1 := trimL_mem l
  have h2 := trimR_mem (trimL l)
  exact ⟨by unfold trim; omega, fun b hb => h1.2 b (h2.2 b hb)⟩
theorem line_mem (l : Str) : (line l).length ≤ l.length ∧ ∀ b ∈ line l, b ∈ l := by
  unfold line
  have h1 := trim_mem ((cut l 35).headD [])
  have h2 := cut_mem l 35 ((cut l 35).headD []) (by cases h : cut l 35 with | nil => exact absurd h (cut_ne l 35) | cons x y => exact List.mem_cons_self)
  exact ⟨by omega, fun b hb => h2.2 b (h1.2 b hb)⟩
theorem fields_mem (l : Str) : ∀ f ∈ fields l, f.length ≤ l.length ∧ ∀ b ∈ f, b ∈ l := by
  intro f hf
  unfold fields at hf
  split at hf
  · cases hf
  · obtain ⟨p, hp, rfl⟩ := List.mem_map.1 hf
    have h1 := cut_mem _ _ p hp
    have h2 := trim_mem p
    have h3 := line_mem l
    exact ⟨by omega, fun b hb => h3.2 b (h1.2 b (h2.2 b hb))⟩
theorem fields_len (l : Str) : (fields l).length ≤ l.length + 1 := by
  unfold fields
  split
  · simp
  · have h1 := cut_len (line l) 59
    have h2 := line_mem l
    rw [List.length_map]
    omega
/-! ### trimming, step by step -/
theorem trimL_more {b : UInt8} {l : Str} (h : ws b = true) : trimL (b :: l) = trimL l := by
  unfold trimL
  rw [List.dropWhile_cons, if_pos h]
theorem trimL_end {b : UInt8} {l : Str} (h : ws b = false) : trimL (b :: l) = b :: l := by
  unfold trimL
  rw [List.dropWhile_cons, if_neg (by rw [h]; decide)]
theorem trimR_more {b : UInt8} {l : Str} (h : ws b = true) : trimR (l ++ [b]) = trimR l := by
  unfold trimR
  rw [List.reverse_append, List.reverse_singleton, List.singleton_append, List.dropWhile_cons, if_pos h]
theorem trimR_end {b : UInt8} {l : Str} (h : ws b = false) : trimR (l ++ [b]) = l ++ [b] := by
  unfold trimR
  rw [List.reverse_append, List.reverse_singleton, List.singleton_append, List.dropWhile_cons, if_neg (by rw [h]; decide)]
  simp
theorem cut_hit {b x : UInt8} {outs : List Str} {cur l : Str} (h : x = b) : outs ++ cutGo b cur (x :: l) = (outs ++ [cur]) ++ cutGo b [] l := by
  subst h
  rw [cutGo, if_pos rfl]
  simp
theorem cut_miss {b x : UInt8} {outs : List Str} {cur l : Str} (h : x ≠ b) : outs ++ cutGo b cur (x :: l) = outs ++ cutGo b (cur ++ [x]) l := by
  rw [cutGo, if_neg h]
end RSp
/-! ### the files -/
def refB (f : Func) : Prop := RSp.parse (textOf f).data.toList = some (recsOf f)
theorem ref_cat : refB Tryz.f18 := by unfold refB; kernel_rfl
theorem ref_comb : refB Tryz.f19 := by unfold refB; kernel_rfl
theorem ref_scr : refB Tryz.f20 := by unfold refB; kernel_rfl
theorem ref_clu : refB Tryz.f21 := by unfold refB; kernel_rfl
theorem ref_word : refB Tryz.f22 := by unfold refB; kernel_rfl
theorem ref_dec : refB Tryz.f24 := by unfold refB; kernel_rfl
theorem ref_fol : refB Tryz.f26 := by unfold refB; kernel_rfl
end Go.Proofs.YtchkckfadennhaaGreatDoor
