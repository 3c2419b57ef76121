/- props.Tables as Load makes them: what lies where, and what the files' records come to. No code is walked here. -/
import Derived.Test.YtmdkjljcnegmeaaDoorFold2W
namespace Go.Proofs.YtmdkjljcnegmeaaDoor
open Go.RowKit
set_option linter.unusedVariables false

/-! ### the parts that the decompositions' records come to -/
def partsRec (x : Rec) (F : Int → Option (List Nat)) : Int → Option (List Nat) := fun y => if (x.lo : Int) ≤ y ∧ y ≤ x.hi then some (Sp.pts (fld0 x)) else F y
def partsTo (x : Rec) (F : Int → Option (List Nat)) (r : Nat) : Int → Option (List Nat) := fun y => if (x.lo : Int) ≤ y ∧ y < r then some (Sp.pts (fld0 x)) else F y
theorem partsTo_zero (x : Rec) (F : Int → Option (List Nat)) : partsTo x F x.lo = F := by
  funext y
  unfold partsTo
  rw [if_neg (by omega)]
theorem partsTo_all (x : Rec) (F : Int → Option (List Nat)) : partsTo x F (x.hi + 1) = partsRec x F := by
  funext y
  unfold partsTo partsRec
  by_cases h : (x.lo : Int) ≤ y ∧ y ≤ x.hi
  · rw [if_pos h, if_pos (by omega)]
  · rw [if_neg h, if_neg (by omega)]
theorem partsTo_next (x : Rec) (F : Int → Option (List Nat)) (r : Nat) (h : x.lo ≤ r) : partsTo x F (r + 1) = setP (partsTo x F r) r (Sp.pts (fld0 x)) := by
  funext y
  unfold partsTo setP
  by_cases e : y = (r : Int)
  · subst e
    rw [if_pos (by omega), if_pos rfl]
  · rw [if_neg e]
    show _ = (if (x.lo : Int) ≤ y ∧ y < (r : Int) then some (Sp.pts (fld0 x)) else F y)
    by_cases h1 : (x.lo : Int) ≤ y ∧ y < (r : Int)
    · rw [if_pos h1, if_pos (by omega)]
    · rw [if_neg h1, if_neg (by omega)]
def partsOf (rs : List Rec) : Int → Option (List Nat) := rs.foldl (fun F x => partsRec x F) (fun _ => none)
theorem partsOf_snoc (rs : List Rec) (x : Rec) : partsOf (rs ++ [x]) = partsRec x (partsOf rs) := by unfold partsOf; rw [List.foldl_append]; rfl
def foldsOf (full : Bool) (rs : List Rec) : Int → Option (List Nat) := rs.foldl (fun F x => foldRec x full F) (fun _ => none)
theorem foldsOf_snoc (full : Bool) (rs : List Rec) (x : Rec) : foldsOf full (rs ++ [x]) = foldRec x full (foldsOf full rs) := by unfold foldsOf; rw [List.foldl_append]; rfl

/-! ### the files -/
structure Files where
  cat : List Rec
  comb : List Rec
  scr : List Rec
  clu : List Rec
  word : List Rec
  dec : List Rec
  fol : List Rec
structure DecOk (r : Rec) : Prop where
  ok : RecOk r
  ascii : ∀ b ∈ fld0 r, b.toNat < 128
  len : (fld0 r).length < 1000
/-- A file that load reads: neither empty nor too long. -/
structure ListOk (rs : List Rec) : Prop where
  pos : 0 < rs.length
  le : rs.length ≤ 100000
  ok : ∀ r ∈ rs, RecOk r
structure FilesOk (Φ : Files) : Prop where
  cat : ListOk Φ.cat
  comb : ListOk Φ.comb
  scr : ListOk Φ.scr
  clu : ListOk Φ.clu
  word : ListOk Φ.word
  decl : ListOk Φ.dec
  dec : ∀ r ∈ Φ.dec, DecOk r
  foll : ListOk Φ.fol
  fol : ∀ r ∈ Φ.fol, FoldOk r
def TextIs (f : FuncId) (rs : List Rec) : Prop := ∃ t, (∀ w, Calls Tryd.prog f #[] w fun e w' => e = .returned (.string t) ∧ w = w') ∧ ∀ w, Env w → Calls Tryd.prog 26 #[.string t] w (ParseSaid rs w)
structure TextsOk (Φ : Files) : Prop where
  cat : TextIs 21 Φ.cat
  comb : TextIs 22 Φ.comb
  scr : TextIs 23 Φ.scr
  clu : TextIs 24 Φ.clu
  word : TextIs 25 Φ.word
  dec : TextIs 27 Φ.dec
  fol : TextIs 29 Φ.fol

/-! ### where it lies -/
def TxAt (w : World) (B p : Nat) (rs : List Rec) : Prop := TrieAt w B p (valsOf rs) (entCur (entsOf rs).reverse)
def KnownAt (w : World) (B : Nat) (kv : Value) (rs : List Rec) : Prop := ∃ s, s.Perm (clipped (rgsOf rs)) ∧ s.Pairwise (fun a b => a.lo ≤ b.lo) ∧ RgsAt w B kv (joinAll s)
structure Five (w : World) (B : Nat) (Φ : Files) (p0 p1 p2 p3 p4 : Nat) (vv kv : Value) : Prop where
  t0 : TxAt w B p0 Φ.cat
  t1 : TxAt w B p1 Φ.comb
  t2 : TxAt w B p2 Φ.scr
  t3 : TxAt w B p3 Φ.clu
  t4 : TxAt w B p4 Φ.word
  kinds : w.ownsRow B 9 1 vv (valsOf Φ.cat).length (strVs (valsOf Φ.cat))
  known : KnownAt w B kv Φ.cat
section
variable {w w' : World} {B : Nat} {Φ : Files} {p p0 p1 p2 p3 p4 : Nat} {vv kv : Value} {rs : List Rec}
theorem TxAt.above (h : TxAt w B p rs) (ha : ∀ k, B ≤ k → k < w.heap.size → w'.heap[k]? = w.heap[k]?) : TxAt w' B p rs := TrieAt.above h ha
theorem KnownAt.above (h : KnownAt w B kv rs) (ha : ∀ k, B ≤ k → k < w.heap.size → w'.heap[k]? = w.heap[k]?) : KnownAt w' B kv rs := by
  obtain ⟨s, h1, h2, h3⟩ := h
  exact ⟨s, h1, h2, own_above h3 ha⟩
theorem Five.above (h : Five w B Φ p0 p1 p2 p3 p4 vv kv) (ha : ∀ k, B ≤ k → k < w.heap.size → w'.heap[k]? = w.heap[k]?) : Five w' B Φ p0 p1 p2 p3 p4 vv kv :=
  ⟨h.t0.above ha, h.t1.above ha, h.t2.above ha, h.t3.above ha, h.t4.above ha, own_above h.kinds ha, h.known.above ha⟩
/-- What load comes to stands when more is made, or the tables' own cells are written. -/
theorem LoadSaid.tx {e : Ending} {W : World} (h : LoadSaid rs W e w) (hB : B ≤ W.heap.size) : ∃ p vv kv, e = .returned (.tuple #[.agg #[.pointer (some ⟨p, 0, none⟩)], vv, kv]) ∧ TxAt w B p rs ∧ w.ownsRow B 9 1 vv (valsOf rs).length (strVs (valsOf rs)) ∧ KnownAt w B kv rs ∧ Below W.heap.size W w := by
  obtain ⟨p, vv, kv, s, he, ht, hv, hp, hs, hk, hb⟩ := h
  exact ⟨p, vv, kv, he, ht.base hB, own_base hv hB, ⟨s, hp, hs, own_base hk hB⟩, hb⟩
end
def tabCells (p0 p1 p2 p3 p4 : Nat) (vv kv : Value) (m : Nat) : Array Value :=
  #[.pointer (some ⟨p0, 0, none⟩), .pointer (some ⟨p1, 0, none⟩), .pointer (some ⟨p2, 0, none⟩), .pointer (some ⟨p3, 0, none⟩), .pointer (some ⟨p4, 0, none⟩), vv, kv, .map (some m), .map (some (m + 1)), .map (some (m + 2))]
/-- The tables: block m + 3; the maps: the three blocks ahead of it. -/
structure TabAt (w : World) (m : Nat) (Φ : Files) : Prop where
  tab : ∃ p0 p1 p2 p3 p4 vv kv, Blk w (m + 3) 39 (tabCells p0 p1 p2 p3 p4 vv kv m) ∧ Five w (m + 4) Φ p0 p1 p2 p3 p4 vv kv
  parts : ∃ c, c ≤ 1000000000000 ∧ PtsAt w m m c (partsOf Φ.dec)
  simple : ∃ c, c ≤ 1000000000000 ∧ PtsAt w m (m + 1) c (foldsOf false Φ.fol)
  full : ∃ c, c ≤ 1000000000000 ∧ PtsAt w m (m + 2) c (foldsOf true Φ.fol)
theorem TabAt.lt {w : World} {m : Nat} {Φ : Files} (h : TabAt w m Φ) : m + 3 < w.heap.size := by
  obtain ⟨⟨p0, p1, p2, p3, p4, vv, kv, hb, _⟩, _⟩ := h
  exact heap_lt hb
theorem TabAt.above {w w' : World} {m : Nat} {Φ : Files} (h : TabAt w m Φ) (ha : ∀ k, m ≤ k → k < w.heap.size → w'.heap[k]? = w.heap[k]?) : TabAt w' m Φ := by
  have hlt := h.lt
  obtain ⟨⟨p0, p1, p2, p3, p4, vv, kv, hb, hf⟩, ⟨c, hc, hp⟩, ⟨c0, hc0, hp0⟩, ⟨c1, hc1, hp1⟩⟩ := h
  exact ⟨⟨p0, p1, p2, p3, p4, vv, kv, (ha _ (by omega) hlt).trans hb, hf.above fun k h1 h2 => ha k (by omega) h2⟩, ⟨c, hc, hp.above ha⟩, ⟨c0, hc0, hp0.above ha⟩, ⟨c1, hc1, hp1.above ha⟩⟩
theorem TabAt.below {w w' : World} {m : Nat} {Φ : Files} (h : TabAt w m Φ) (hb : Below w.heap.size w w') : TabAt w' m Φ := h.above fun k _ hk => hb.block k hk
end Go.Proofs.YtmdkjljcnegmeaaDoor
