/- Words shared by the walks: a map of raw values as a function of its keys; cells and blocks that stay. No program stands here. -/
import Derived.Maps.Own
import Derived.Maps.Views
import Derived.Maps.RangeWalk
import Derived.Maps.AppendAt
import Derived.Below
import Derived.WalkSpells
import Derived.OwnWalk
import Derived.WalkKit
import Derived.Lib.Hide
import Derived.Deep.Draws
namespace Go.Proofs.YtchkckfadennhaaGreatDoor
open Go.RowKit Go.Maps
set_option linter.unusedVariables false

theorem grown_of_below {w w' : World} (hb : Below w.heap.size w w') (row : Option Nat) : w.grownBy w' row := ⟨hb.os, hb.tape, hb.output, hb.size, fun k hk _ => hb.block k hk⟩
theorem own_below {w w' : World} {base : Nat} {e : TypeId} {size n : Nat} {v : Value} {xs : List Value} (h : w.ownsRow base e size v n xs) (hb : Below w.heap.size w w') : w'.ownsRow base e size v n xs :=
  h.kept (grown_of_below hb none) (by cases v.ownBlock <;> simp)

theorem cells_of_row {w : World} {b : Nat} {cs : Array Value} {t : TypeId} (h : w.heap[b]? = some (.cells cs t)) : (∀ o, w.cell? ⟨b, o, none⟩ = cs[o]?) ∧ ∀ o, w.frozen? ⟨b, o, none⟩ = false :=
  ⟨fun o => by simp [World.cell?, h], fun o => by simp [World.frozen?, h]⟩
theorem row_new (w : World) (o : Obj) : (w.alloc o).heap[w.heap.size]? = some o := by
  show (w.heap.push o)[w.heap.size]? = _
  simp
theorem size_new (w : World) (o : Obj) : (w.alloc o).heap.size = w.heap.size + 1 := by
  show (w.heap.push o).size = _
  simp
theorem below_drewN (w : World) (q : Nat) : Below w.heap.size w (w.drewN q) := ⟨rfl, rfl, rfl, Nat.le_refl _, fun _ _ => rfl⟩

theorem heap_lt {w : World} {b : Nat} {o : Obj} (h : w.heap[b]? = some o) : b < w.heap.size := (Array.getElem?_eq_some_iff.1 h).1
theorem grown_row {w w' : World} {row : Option Nat} (hg : w.grownBy w' row) {b : Nat} {o : Obj} (h : w.heap[b]? = some o) (hne : some b ≠ row) : w'.heap[b]? = some o := (hg.block b (heap_lt h) hne).trans h
theorem alloc_row {w : World} {b : Nat} {o : Obj} (h : w.heap[b]? = some o) (o' : Obj) : (w.alloc o').heap[b]? = some o := (Below.heap_alloc w o' b (heap_lt h)).trans h
theorem below_row {w w' : World} (hb : Below w.heap.size w w') {b : Nat} {o : Obj} (h : w.heap[b]? = some o) : w'.heap[b]? = some o := (hb.block b (heap_lt h)).trans h

theorem add_plain (b o j : Nat) : (⟨b, o, none⟩ : Addr).add j = ⟨b, o + j, none⟩ := by unfold Addr.add; split <;> simp_all
theorem own_cell {w : World} {base g cap n : Nat} {e : TypeId} {size : Nat} {xs : List Value} (h : w.ownsRow base e size (.slice (some ⟨g, 0, none⟩) n cap) n xs) (j : Nat) (u : Value) (hu : xs[j]? = some u) : w.cell? ⟨g, j, none⟩ = some u := by
  have := h.cells (g := g) rfl j u hu
  rwa [add_plain, Nat.zero_add] at this

theorem blen (b : ByteArray) : b.data.toList.length = b.size := Array.length_toList
/-! ### append, the type's facts in one word -/
structure SlT (P : Program) (t e : TypeId) (size bytes : Nat) : Prop where
  ht : P.underlying t = some (.slice e)
  hi : (P.info? e).map (fun i => (i.zero.map (·.cells.size), i.size, i.bytes)) = some (some size, size, bytes)
  pos : 0 < size
  posb : 0 < bytes
theorem wp_append {P : Program} (w : World) {t e : TypeId} {size bytes : Nat} (T : SlT P t e size bytes) {ops : Array Oper} {rest : List Oper} {o : Oper} {a : Act} {Q : Exit → Act → World → Prop} (hgd : o.guard = none) (s x : Operand)
    (ho : o.op = .call { callee := .builtin .append, args := #[s, x], argTypes := #[t, t] })
    (base : Nat) (v : Value) (n : Nat) (xs : List Value) (hs : a.eval s = v) (hown : w.ownsRow base e size v n xs)
    (ad : Addr) (m c : Nat) (news : List Value) (hx : a.eval x = .slice (some ad) m c) (hl : news.length = m * size) (hnews : ∀ j u, news[j]? = some u → w.cell? (ad.add j) = some u) (h1 : ∀ u ∈ news, u.oneCell' = true)
    (hbytes : (n + m) * bytes ≤ 140737488355328) (hbase : base ≤ w.heap.size)
    (h : ∀ v' w', w'.ownsRow base e size v' (n + m) (xs ++ news) → w.grownBy w' v.ownBlock → (v' = .slice none 0 0 ↔ v = .slice none 0 0 ∧ m = 0) → (v'.ownBlock = v.ownBlock ∨ v'.ownBlock = some w.heap.size) → wpList P ops Q rest (a.put o.dst v') w') :
    wpList P ops Q (o :: rest) a w := by
  obtain ⟨i, hi, hz⟩ := Option.map_eq_some_iff.1 T.hi
  simp only [Prod.mk.injEq] at hz
  obtain ⟨hz0, hz1, hz2⟩ := hz
  obtain ⟨z, hz, hzc⟩ := Option.map_eq_some_iff.1 hz0
  have hlen : n + m ≤ (n + m) * bytes := Nat.le_mul_of_pos_right _ T.posb
  exact wpList_append_own_at w hgd s x t ho base e i z size bytes T.ht hi hz hz1 hz2 hzc T.pos v n xs hs hown ad m c news hx hl hnews h1 (by unfold maxLen; omega) hbytes hbase h
theorem own_lt {w : World} {base : Nat} {e : TypeId} {size n : Nat} {v : Value} {xs : List Value} (h : w.ownsRow base e size v n xs) (k : Nat) (hk : v.ownBlock = some k) : base ≤ k ∧ k < w.heap.size := h.lt k hk
theorem own_len {w : World} {base : Nat} {e : TypeId} {size n : Nat} {v : Value} {xs : List Value} (h : w.ownsRow base e size v n xs) : n ≤ maxLen := by
  rcases h.2 with ⟨_, h1⟩ | ⟨g', cap', cur, he, _, _, h1, h2, _⟩
  · unfold maxLen; omega
  · omega
/-- An own row that isn't empty: its block. -/
theorem own_form {w : World} {base : Nat} {e : TypeId} {size n : Nat} {v : Value} {xs : List Value} (h : w.ownsRow base e size v n xs) (hn : 0 < n) : ∃ g cap, v = .slice (some ⟨g, 0, none⟩) n cap ∧ base ≤ g ∧ g < w.heap.size ∧ n ≤ cap ∧ cap ≤ maxLen := by
  rcases h.2 with ⟨_, h1⟩ | ⟨g', cap', cur, he, hb, hg, h1, h2, _⟩
  · omega
  · exact ⟨g', cap', he, hb, (Array.getElem?_eq_some_iff.1 hg).1, h1, h2⟩
theorem own_base {w : World} {base base' : Nat} {e : TypeId} {size n : Nat} {v : Value} {xs : List Value} (h : w.ownsRow base e size v n xs) (hb : base' ≤ base) : w.ownsRow base' e size v n xs := by
  refine ⟨h.1, ?_⟩
  rcases h.2 with h1 | ⟨g, cap, cur, he, h1, h2⟩
  · exact .inl h1
  · exact .inr ⟨g, cap, cur, he, by omega, h2⟩
/-- Rows of two element types lie in two blocks. -/
theorem own_types {w : World} {b b' : Nat} {e e' : TypeId} {s s' n n' : Nat} {v v' : Value} {xs xs' : List Value} (h : w.ownsRow b e s v n xs) (h' : w.ownsRow b' e' s' v' n' xs') (hne : e ≠ e') : v.ownBlock = none ∨ v.ownBlock ≠ v'.ownBlock := by
  rcases h.2 with ⟨rfl, _⟩ | ⟨g, cap, cur, rfl, _, hh, _⟩
  · exact .inl rfl
  · refine .inr fun hk => ?_
    rcases h'.2 with ⟨rfl, _⟩ | ⟨g', cap', cur', rfl, _, hh', _⟩
    · simp [Value.ownBlock] at hk
    · have : g = g' := by simpa [Value.ownBlock] using hk
      subst this
      rw [hh] at hh'
      injection hh' with hh'
      injection hh' with _ ht
      exact hne ht
theorem own_slice {w : World} {base n : Nat} {e : TypeId} {size : Nat} {v : Value} {xs : List Value} (h : w.ownsRow base e size v n xs) : ∃ A c, v = .slice A n c := by
  rcases h.2 with ⟨rfl, rfl⟩ | ⟨g, cap, cur, rfl, _⟩
  · exact ⟨none, 0, rfl⟩
  · exact ⟨_, cap, rfl⟩

/-! ### a map as a function of its keys; its elements' values stand raw -/
def rawR (v : Value) : Option (DataW Value × List MemPlace) := some (.held v, [])
def orHeld (o : Option Value) (z : DataW Value) : DataW Value := match o with | some v => .held v | none => z
/-- The keys of type k are κ's. -/
structure KK (P : Program) (k : TypeId) (κ : Type) where
  keyed : Keyed P k
  ok : κ → Prop
  val : κ → Value
  lit : κ → Lit
  key : ∀ x, ok x → keyOf P k (val x) = some (lit x)
  inv : ∀ v l, keyOf P k v = some l → ∃ x, ok x ∧ v = val x ∧ l = lit x
  inj : ∀ x y, lit x = lit y → x = y
def KK.int {P : Program} {k : TypeId} {q : IntKind} (hk : P.underlying k = some (.int q)) : KK P k Int where
  keyed := int_keyed hk
  ok x := (Lit.int q x).wf = true
  val x := .int q x
  lit x := .int q x
  key x h := keyOf_int_mk hk h
  inv v l h := by
    obtain ⟨x, rfl, rfl, hw⟩ := Maps.keyOf_int_inv hk h
    exact ⟨x, hw, rfl, rfl⟩
  inj x y h := by injection h

variable {κ : Type}
def setF [DecidableEq κ] (f : κ → Option Value) (x : κ) (v : Value) : κ → Option Value := fun y => if y = x then some v else f y
def MapF {P : Program} {k : TypeId} (w : World) (K : KK P k κ) (b n : Nat) (f : κ → Option Value) : Prop :=
  ∃ D, w.ownsMap P k rawR b n D ∧ IsMap D ∧ ∀ x, K.ok x → has D (K.lit x) = (f x).isSome ∧ ∀ z, D.atKey (K.lit x) z = orHeld (f x) z

section
variable {P : Program} {k : TypeId} {w : World} {b n : Nat} {f : κ → Option Value} {K : KK P k κ}
theorem MapF.made (w : World) (K : KK P k κ) : MapF (w.alloc (.map #[] 0)) K w.heap.size 0 (fun _ => none) :=
  ⟨.map [], World.ownsMap_made w P k rawR, ⟨[], rfl⟩, fun _ _ => ⟨rfl, fun _ => rfl⟩⟩
theorem MapF.mono (h : MapF w K b n f) {n' : Nat} (hn : n ≤ n') : MapF w K b n' f := by
  obtain ⟨D, h1, h2, h3⟩ := h
  exact ⟨D, h1.mono hn, h2, h3⟩
theorem MapF.lt (h : MapF w K b n f) : b < w.heap.size := by
  obtain ⟨D, h1, _⟩ := h
  exact h1.lt
theorem MapF.kept {w' : World} {row : Option Nat} (h : MapF w K b n f) (hg : w.grownBy w' row) (hne : some b ≠ row) : MapF w' K b n f := by
  obtain ⟨D, h1, h2, h3⟩ := h
  exact ⟨D, h1.kept hg hne, h2, h3⟩
theorem MapF.block {w' : World} (h : MapF w K b n f) (hb : w'.heap[b]? = w.heap[b]?) : MapF w' K b n f := by
  obtain ⟨D, ⟨es, clock, h0, h1⟩, h2, h3⟩ := h
  exact ⟨D, ⟨es, clock, hb.trans h0, h1⟩, h2, h3⟩
theorem MapF.below {w' : World} {B : Nat} (h : MapF w K b n f) (hb : Below B w w') (hB : b < B) : MapF w' K b n f := h.block (hb.block b hB)
theorem MapF.isMap (h : MapF w K b n f) : ∃ es clock, w.heap[b]? = some (.map es clock) := by
  obtain ⟨D, ⟨es, clock, h0, h1⟩, h2, h3⟩ := h
  exact ⟨es, clock, h0⟩
theorem MapF.congr (h : MapF w K b n f) {g : κ → Option Value} (hfg : ∀ x, K.ok x → f x = g x) : MapF w K b n g := by
  obtain ⟨D, h1, h2, h3⟩ := h
  exact ⟨D, h1, h2, fun x hx => hfg x hx ▸ h3 x hx⟩
theorem MapF.look (c : Bool) {t e : TypeId} (h : MapF w K b n f) (ht : P.underlying t = some (.map k e)) {z : Value} (hz : (zeroValue e).run P w = .ok z w)
    (x : κ) (hx : K.ok x) :
    (Instr.lookup t (.map (some b)) (K.val x) c).run P w = .ok (if c then .tuple #[(f x).getD z, .bool (f x).isSome] else (f x).getD z) w := by
  obtain ⟨D, ⟨es, clock, hb, F, _, rfl⟩, _, h3⟩ := h
  obtain ⟨hh, hat0⟩ := h3 x hx
  rcases Maps.fit_look c K.keyed ht hz hb F (K.key x hx) with ⟨hrun, _, hat⟩ | ⟨e0, y, _, _, hrun, hRv, hat, _⟩
  · have h1 := hat (.held (.bool true))
    have h2 := hat .nil
    rw [hat0] at h1 h2
    cases hf : f x with
    | none => simpa [hf] using hrun
    | some v =>
      rw [hf] at h2
      cases h2
  · have hy : y = (.held e0.val, []) := (Option.some.inj hRv).symm
    subst hy
    have h2 := hat .nil
    rw [hat0] at h2
    cases hf : f x with
    | none =>
      rw [hf] at h2
      cases h2
    | some v =>
      rw [hf] at h2
      have : v = e0.val := by simpa [orHeld] using h2
      subst this
      simpa [hf] using hrun
theorem MapF.update [DecidableEq κ] {t e : TypeId} (h : MapF w K b n f) (ht : P.underlying t = some (.map k e)) (hn : n < maxLen) (val : Value) (x : κ) (hx : K.ok x) :
    ∃ w', (Instr.mapUpdate t (.map (some b)) (K.val x) val).run P w = .ok () w' ∧ MapF w' K b (n + 1) (setF f x val) ∧ w.grownBy w' (some b) := by
  obtain ⟨D, h1, h2, h3⟩ := h
  obtain ⟨w', hrun, r1, r2⟩ := h1.update (val := val) (d := .held val) (ps := []) K.keyed ht hn (K.key x hx) rfl
  refine ⟨w', hrun, ⟨_, r1, ?_, fun y hy => ?_⟩, r2⟩
  · obtain ⟨es, clock, _, _, _, hD⟩ := r1
    exact ⟨_, hD⟩
  · have hk := K.keyed.key (K.key y hy)
    by_cases e1 : y = x
    · subst e1
      unfold setF
      rw [if_pos rfl]
      exact ⟨has_put_same h2 hk _, fun z => atKey_put_same h2 hk _ z⟩
    · have e2 : K.lit y ≠ K.lit x := fun e => e1 (K.inj _ _ e)
      unfold setF
      rw [if_neg e1]
      exact ⟨(has_put_other e2 _).trans (h3 y hy).1, fun z => (atKey_put_other e2 _ z).trans ((h3 y hy).2 z)⟩
end

/-- m[k] = v at the operation. -/
theorem wp_mapUpdateF [DecidableEq κ] {P : Program} (w : World) {ops : Array Oper} {rest : List Oper} {o : Oper} {a : Act} {Q : Exit → Act → World → Prop}
    (hg : o.guard = none) (m x v : Operand) (t : TypeId) (hop : o.op = Op.mapUpdate t m x v)
    {k e : TypeId} (K : KK P k κ) (ht : P.underlying t = some (.map k e)) (b n : Nat) (f : κ → Option Value)
    (hm : a.eval m = .map (some b)) (hown : MapF w K b n f) (hn : n < maxLen) (key : κ) (val : Value) (hx : a.eval x = K.val key) (hv : a.eval v = val) (hkey : K.ok key)
    (hK : ∀ w', MapF w' K b (n + 1) (setF f key val) → w.grownBy w' (some b) → wpList P ops Q rest (a.put o.dst undef) w') :
    wpList P ops Q (o :: rest) a w := by
  refine wpList_plain hg fun K' hK' => ?_
  obtain ⟨w', hrun, r1, r2⟩ := hown.update ht hn val key hkey
  unfold Oper.wp
  simp [execOp, hop, hm, hx, hv, hrun, Result.andThen]
  exact hK' _ _ (hK w' r1 r2)

/-! ### a map that is ranged over -/
/-- left: which keys are still to come. -/
def Ranging {P : Program} {k : TypeId} (w : World) (K : KK P k κ) (b r n : Nat) (f : κ → Option Value) (left : κ → Bool) (cnt : Nat) : Prop :=
  ∃ D l, w.ranges P k rawR b r n D l cnt ∧ (∀ x, K.ok x → l (K.lit x) = left x) ∧ ∀ x, K.ok x → ∀ z, D.atKey (K.lit x) z = orHeld (f x) z
theorem wp_rangeF {P : Program} (w : World) {ops : Array Oper} {rest : List Oper} {o : Oper} {a : Act} {Q : Exit → Act → World → Prop}
    (hg : o.guard = none) (m : Operand) (t : TypeId) (hop : o.op = Op.range t m) {k e : TypeId} (K : KK P k κ) (ht : P.underlying t = some (.map k e)) (b n : Nat) (f : κ → Option Value)
    (hm : a.eval m = .map (some b)) (hown : MapF w K b n f)
    (hK : ∀ w' cnt, Ranging w' K b w.heap.size n f (fun x => (f x).isSome) cnt → w.grownBy w' none → w'.heap.size = w.heap.size + 1 → wpList P ops Q rest (a.put o.dst (.pointer (some ⟨w.heap.size, 0, none⟩))) w') :
    wpList P ops Q (o :: rest) a w := by
  obtain ⟨D, h1, h2, h3⟩ := hown
  exact wpList_range_own w hg m t hop k e K.keyed ht rawR b n D hm h1 fun w' r1 r2 r3 => hK w' _ ⟨D, _, r1, fun x hx => (h3 x hx).1, fun x hx => (h3 x hx).2⟩ r2 r3
theorem wp_nextF [DecidableEq κ] {P : Program} (w : World) {ops : Array Oper} {rest : List Oper} {o : Oper} {a : Act} {Q : Exit → Act → World → Prop}
    (hg : o.guard = none) (it : Operand) (hop : o.op = Op.next it false) {k : TypeId} (K : KK P k κ) (b r n : Nat) (f : κ → Option Value) (left : κ → Bool) (cnt : Nat)
    (hit : a.eval it = .pointer (some ⟨r, 0, none⟩)) (h : Ranging w K b r n f left cnt)
    (hDone : cnt = 0 → (∀ x, K.ok x → left x = false) → wpList P ops Q rest (a.put o.dst (.tuple #[.bool false])) w)
    (hMore : ∀ (x : κ) (v : Value) (w' : World) (cnt' : Nat), K.ok x → left x = true → f x = some v → Ranging w' K b r n f (fun y => left y && !decide (y = x)) cnt' → cnt' < cnt →
      w.grownBy w' (some r) → w'.heap.size = w.heap.size → (Instr.entry (.pointer (some ⟨r, 0, none⟩))).run P w' = .ok (.tuple #[K.val x, v]) w' → wpList P ops Q rest (a.put o.dst (.tuple #[.bool true, K.val x, v])) w') :
    wpList P ops Q (o :: rest) a w := by
  obtain ⟨D, l, hr, hl, hf⟩ := h
  refine wpList_plain hg fun K' hK' => ?_
  unfold Oper.wp
  rcases hr.next K.keyed o.type with ⟨h0, hl0, hrun⟩ | ⟨key, v, kl, y, w', cnt', hkey, hlk, hv, hat, hrun, hrg, hlt, hgr, hsz, hen⟩
  · simp [execOp, hop, hit, hrun, Result.andThen]
    exact hK' _ _ (hDone h0 fun x hx => by rw [← hl x hx]; exact hl0 _)
  · obtain ⟨x, hx, rfl, rfl⟩ := K.inv key kl hkey
    have hy : y = (.held v, []) := (Option.some.inj hv).symm
    subst hy
    have hfx : f x = some v := by
      have h2 := hat .nil
      rw [hf x hx] at h2
      cases e : f x with
      | none => rw [e] at h2; cases h2
      | some u => rw [e] at h2; simpa [orHeld] using h2
    simp [execOp, hop, hit, hrun, Result.andThen]
    refine hK' _ _ (hMore x v w' cnt' hx (by rw [← hl x hx]; exact hlk) hfx ⟨D, _, hrg, fun z hz => ?_, hf⟩ hlt hgr hsz hen)
    show (l (K.lit z) && !(K.lit z).sameKey (K.lit x)) = _
    rw [hl z hz]
    congr 2
    by_cases e : z = x
    · subst e
      rw [decide_eq_true rfl]
      exact WideAt.sameKey_self (K.keyed.key hkey)
    · rw [decide_eq_false e]
      exact sameKey_ne (fun e2 => e (K.inj _ _ e2))
end Go.Proofs.YtchkckfadennhaaGreatDoor
