/- trie: shared, fill. -/
import Derived.Test.YtmdkjljcnegmeaaDoorTrieA
import Derived.Test.YtmdkjljcnegmeaaDoorTrieP
namespace Go.Proofs.YtmdkjljcnegmeaaDoor
open Go.RowKit
set_option linter.unusedVariables false
set_option linter.unusedSimpArgs false

def kI32 : KK Tryd.prog 21 Int := KK.int Tryd.underlying21
def intO (o : Option Int) : Option Value := o.map (Value.int .i64)
/-- A trie in memory while it is built. -/
structure TrieSt (w : World) (B p wm : Nat) (v0 : Value) (m : Nat) (v2 : Value) (vals : List Sp.Str) (t : TS) (c : Nat) : Prop where
  ptr : Blk w p 106 #[v0, .map (some m), v2]
  bp : B ≤ p
  hv0 : w.ownsRow B 9 1 v0 vals.length (strVs vals)
  hm : MapF w kInt m c (fun i => intO (t.first i))
  hwm : MapF w kI32 wm (c + 1) (fun i => intO (t.whole i))
  h2 : w.ownsRow B 102 256 v2 t.blocks.length (TS.flat t.blocks)
  bm : B ≤ m
  bwm : B ≤ wm
  ne : m ≠ wm
  cnt : t.blocks.length ≤ c + 1
  inv : t.Inv vals.length
theorem slCells : SlT Tryd.prog 104 102 256 1024 := ⟨Tryd.underlying104, by kernel_rfl, by decide, by decide⟩
theorem blk_map_ne {w : World} {p m : Nat} {t : TypeId} {cs : Array Value} {κ : Type} {k : TypeId} {K : KK Tryd.prog k κ} {n : Nat} {f : κ → Option Value} (h : Blk w p t cs) (hm : MapF w K m n f) : p ≠ m := by
  rintro rfl
  obtain ⟨es, cl, h1⟩ := hm.isMap
  rw [h] at h1
  cases h1
theorem row_map_ne {w : World} {base g cap n n' : Nat} {e : TypeId} {size m : Nat} {xs : List Value} {κ : Type} {k : TypeId} {K : KK Tryd.prog k κ} {f : κ → Option Value} (h : w.ownsRow base e size (.slice (some ⟨g, 0, none⟩) n cap) n xs) (hm : MapF w K m n' f) : g ≠ m := by
  rintro rfl
  obtain ⟨es, cl, h1⟩ := hm.isMap
  rcases h.2 with ⟨h2, _⟩ | ⟨g', cap', cur, he, _, hh, _⟩
  · simp at h2
  · simp at he
    rw [← he.1, h1] at hh
    cases hh
theorem row_blk_ne {w : World} {base g cap n p : Nat} {e t : TypeId} {size : Nat} {xs : List Value} {cs : Array Value} (h : w.ownsRow base e size (.slice (some ⟨g, 0, none⟩) n cap) n xs) (hp : Blk w p t cs) (hne : e ≠ t) : g ≠ p := by
  rintro rfl
  rcases h.2 with ⟨h2, _⟩ | ⟨g', cap', cur, he, _, hh, _⟩
  · simp at h2
  · simp at he
    have hp' : w.heap[g]? = some (.cells cs t) := hp
    rw [← he.1, hp'] at hh
    injection hh with hh
    injection hh with _ ht
    exact hne ht.symm
namespace TrieSt
variable {w : World} {B p wm : Nat} {v0 : Value} {m : Nat} {v2 : Value} {vals : List Sp.Str} {t : TS} {c : Nat}
theorem below {w' : World} (h : TrieSt w B p wm v0 m v2 vals t c) (hb : Below w.heap.size w w') : TrieSt w' B p wm v0 m v2 vals t c :=
  ⟨h.ptr.below hb, h.bp, own_below h.hv0 hb, h.hm.below hb h.hm.lt, h.hwm.below hb h.hwm.lt, own_below h.h2 hb, h.bm, h.bwm, h.ne, h.cnt, h.inv⟩
theorem form (h : TrieSt w B p wm v0 m v2 vals t c) : ∃ g cap, v2 = .slice (some ⟨g, 0, none⟩) t.blocks.length cap ∧ B ≤ g ∧ g < w.heap.size ∧ t.blocks.length ≤ cap ∧ cap ≤ maxLen := own_form h.h2 h.inv.pos
theorem cell {g cap : Nat} (h : TrieSt w B p wm v0 m (.slice (some ⟨g, 0, none⟩) t.blocks.length cap) vals t c) (k n : Nat) (hk : k < t.blocks.length) (hn : n < 256) : w.cell? ⟨g, k * 256 + n, none⟩ = some (.int .i32 (t.cell k n)) := by
  refine own_cell h.h2 _ _ ?_
  rw [TS.flat_get _ h.inv.len k n hn]
  have hc := h.inv.len t.blocks[k] (List.getElem_mem _)
  unfold TS.cell TS.blk
  simp only [Int.toNat_natCast, List.getD_eq_getElem?_getD]
  rw [List.getElem?_eq_getElem hk]
  simp only [Option.bind_some, Option.getD_some]
  rw [List.getElem?_eq_getElem (by omega)]
  rfl
end TrieSt
theorem zInt (w : World) : (zeroValue 3).run Tryd.prog w = .ok (.int .i64 0) w := by kernel_rfl
theorem wf_i32 {x : Int} (h1 : -2147483648 ≤ x) (h2 : x ≤ 2147483647) : (Lit.int .i32 x).wf = true := by go_wf
theorem wf_i64 {x : Int} (h1 : -9223372036854775808 ≤ x) (h2 : x ≤ 9223372036854775807) : (Lit.int .i64 x).wf = true := by go_wf

theorem look_whole (co : Bool) {w : World} {b n : Nat} {f : Int → Option Value} (h : MapF w kI32 b n f) (x : Int) (hx : (Lit.int .i32 x).wf = true) :
    (Instr.lookup 107 (.map (some b)) (.int .i32 x) co).run Tryd.prog w = .ok (if co then .tuple #[(f x).getD (.int .i64 0), .bool (f x).isSome] else (f x).getD (.int .i64 0)) w :=
  h.look co Tryd.underlying107 (zInt w) x hx
theorem look_first (co : Bool) {w : World} {b n : Nat} {f : Int → Option Value} (h : MapF w kInt b n f) (x : Int) (hx : (Lit.int .i64 x).wf = true) :
    (Instr.lookup 103 (.map (some b)) (.int .i64 x) co).run Tryd.prog w = .ok (if co then .tuple #[(f x).getD (.int .i64 0), .bool (f x).isSome] else (f x).getD (.int .i64 0)) w :=
  h.look co Tryd.underlying103 (zInt w) x hx
set_option maxRecDepth 100000 in
theorem shared_walk {w : World} {B p wm : Nat} {v0 : Value} {m : Nat} {v2 : Value} {vals : List Sp.Str} {t : TS} {c : Nat} (h : TrieSt w B p wm v0 m v2 vals t c) (k : Nat) (hk : k < t.blocks.length) (hv : vals.length ≤ 1000000) :
    Calls Tryd.prog 72 #[.pointer (some ⟨p, 0, none⟩), .map (some wm), .int .i64 k] w fun e w' => e = .returned (.bool (t.shared k)) ∧ w = w' := by
  obtain ⟨g, cap, rfl, hg, hgl, hc1, hc2⟩ := h.form
  unfold maxLen at hc2
  have c2 : w.cell? ⟨p, 2, none⟩ = some (.slice (some ⟨g, 0, none⟩) t.blocks.length cap) := h.ptr.cell 2
  have ck : w.cell? ⟨g, k * 256, none⟩ = some (.int .i32 (t.cell k 0)) := h.cell k 0 hk (by omega)
  have hmem : t.cell k 0 ∈ t.blocks[k] := by
    have hl := h.inv.len t.blocks[k] (List.getElem_mem _)
    unfold TS.cell TS.blk
    simp only [Int.toNat_natCast, List.getD_eq_getElem?_getD]
    rw [List.getElem?_eq_getElem hk]
    simp only [Option.getD_some]
    rw [List.getElem?_eq_getElem (by omega)]
    exact List.getElem_mem _
  have hx := h.inv.vals _ (List.getElem_mem _) _ hmem
  have hl := look_whole true h.hwm (t.cell k 0) (wf_i32 (by omega) (by omega))
  have hsh : t.shared k = (t.whole (t.cell k 0) == some (k : Int)) := rfl
  obtain ⟨x, hxx⟩ : ∃ x, x = t.cell k 0 := ⟨_, rfl⟩
  rw [← hxx] at ck hl hsh hx
  clear hmem hxx
  have hclen : t.blocks.length ≤ 9223372036854775807 := by omega
  cases hw : t.whole x with
  | none =>
    simp only [hw, intO, Option.map_none, Option.getD_none, Option.isSome_none, if_true] at hl
    rw [hw] at hsh
    have hs2 : t.shared k = false := by rw [hsh]; rfl
    have hfin := Lib.hid hs2
    clear hw hsh hs2 h
    go_enter Tryd.func72, Tryd.ntmps72
    go_wp2_with fail
    go_ret
    exact ⟨by rw [hfin.out]; rfl, rfl⟩
  | some y =>
    simp only [hw, intO, Option.map_some, Option.getD_some, Option.isSome_some, if_true] at hl
    rw [hw] at hsh
    have hs2 : t.shared k = (y == (k : Int)) := by
      rw [hsh]
      by_cases e : y = k
      · subst e; simp
      · rw [beq_eq_false_iff_ne.2 e, beq_eq_false_iff_ne.2 (fun e2 => e (Option.some.inj e2))]
    have hfin := Lib.hid hs2
    clear hw hsh hs2 h
    go_enter Tryd.func72, Tryd.ntmps72
    go_wp2_with fail
    go_ret
    exact ⟨by rw [hfin.out]; simp, rfl⟩
end Go.Proofs.YtmdkjljcnegmeaaDoor
