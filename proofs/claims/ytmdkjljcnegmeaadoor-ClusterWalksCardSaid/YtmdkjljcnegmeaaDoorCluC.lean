/- cluster: the closure of Edge that tells the kind at a place. -/
import Derived.Test.YtmdkjljcnegmeaaDoorCluB
import Derived.Test.YtmdkjljcnegmeaaDoorLoad2A
namespace Go.Proofs.YtmdkjljcnegmeaaDoor
open Go.RowKit
set_option linter.unusedVariables false
set_option linter.unusedSimpArgs false

/-- A slice of ints, wherever it lies. -/
def ListAt (w : World) (v : Value) (zs : List Int) : Prop := ∃ A c, v = .slice A zs.length c ∧ zs.length ≤ 9223372036854775807 ∧ (0 < zs.length → ∃ ad, A = some ad ∧ ∀ j u, (intz zs)[j]? = some u → w.cell? (ad.add j) = some u)
theorem ListAt.below {w w' : World} {v : Value} {zs : List Int} (h : ListAt w v zs) (hb : Below w.heap.size w w') : ListAt w' v zs := by
  obtain ⟨A, c, h1, h2, h3⟩ := h
  exact ⟨A, c, h1, h2, fun hp => by
    obtain ⟨ad, h4, h5⟩ := h3 hp
    exact ⟨ad, h4, fun j u hu => cell_later hb (h5 j u hu)⟩⟩
theorem ListAt.of_own {w : World} {B : Nat} {v : Value} {zs : List Int} (h : IntsAt w B v zs) : ListAt w v zs := by
  have hl := own_len h
  unfold maxLen at hl
  obtain ⟨A, c, rfl⟩ := own_slice h
  refine ⟨A, c, rfl, by omega, fun hp => ?_⟩
  obtain ⟨g, k, e, _⟩ := own_form h hp
  injection e with e1
  exact ⟨⟨g, 0, none⟩, e1, fun j u hu => by rw [add_plain, Nat.zero_add]; subst e1; exact own_cell h j u hu⟩
def ofK (Φ : Files) (zs : List Int) (i : Int) : Nat := if i < 0 then 0 else kindN (cluOf Φ (zs.getD i.toNat 0))
theorem ofK_le (Φ : Files) (zs : List Int) (i : Int) : ofK Φ zs i ≤ 14 := by
  unfold ofK
  split
  · omega
  · exact kindN_le _
theorem r_loadPtr (ρ : Operand → Value) (W : World) (o : Oper) (x : Operand) (ho : o.op = .load 22 x) (ad : Addr) (hx : ρ x = .pointer (some ad)) (p : Option Addr) (hc : W.cell? ad = some (.pointer p)) : (execOp ρ o).run Tryd.prog W = .ok (.value (.pointer p)) W := by
  unfold execOp
  rw [ho]
  go_simp
theorem r_loadInts (ρ : Operand → Value) (W : World) (o : Oper) (x : Operand) (ho : o.op = .load 25 x) (ad : Addr) (hx : ρ x = .pointer (some ad)) (A : Option Addr) (n c : Nat) (hc : W.cell? ad = some (.slice A n c)) : (execOp ρ o).run Tryd.prog W = .ok (.value (.slice A n c)) W := by
  unfold execOp
  rw [ho]
  go_simp
theorem r_indexInt (ρ : Operand → Value) (W : World) (o : Oper) (x y : Operand) (ho : o.op = .indexAddr 25 x y) (ad : Addr) (n c : Nat) (i : Nat) (hx : ρ x = .slice (some ad) n c) (hy : ρ y = .int .i64 i) (hk : i < n) (hn : n ≤ 9223372036854775807) : (execOp ρ o).run Tryd.prog W = .ok (.value (.pointer (some (ad.add i)))) W := by
  unfold execOp
  rw [ho]
  go_simp
theorem r_loadInt (ρ : Operand → Value) (W : World) (o : Oper) (x : Operand) (ho : o.op = .load 3 x) (ad : Addr) (hx : ρ x = .pointer (some ad)) (i : Int) (hc : W.cell? ad = some (.int .i64 i)) : (execOp ρ o).run Tryd.prog W = .ok (.value (.int .i64 i)) W := by
  unfold execOp
  rw [ho]
  go_simp
abbrev dsE : List (Option Tmp) := [some 7, some 8, some 9, some 10, some 11, some 12, some 13, some 4]
abbrev needsE : List (Nat × Nat) := [(3, 1), (3, 2), (4, 3), (5, 0), (5, 4), (6, 5), (7, 6)]
abbrev opsE : List Op := [.load 22 (.tmp 1), .load 25 (.tmp 2), .move (.tmp 0), .indexAddr 25 (.tmp 8) (.tmp 9), .load 3 (.tmp 10), .call { callee := .value (.func 42), args := #[.tmp 7, .tmp 11], argTypes := #[22, 3] },
  .call { callee := .value (.func 41), args := #[.tmp 12], argTypes := #[9] }, .assign (.tmp 13)]
set_option maxHeartbeats 800000 in
theorem of_region (a : Act) (ops : Array Oper) (rid : Nat) (Q : Exit → Act → World → Prop) (w : World) (m b3 b4 i : Nat) (Φ : Files) (zs : List Int) (ad : Addr) (c : Nat)
    (hops : ops.toList.map (·.op) = opsE) (hok : dagOk ops dsE = true) (hnd : needsOk2 ops needsE = true) (hsz : 14 ≤ a.tmps.size)
    (h0 : a.tmps.getD 0 undef = .int .i64 i) (h1 : a.tmps.getD 1 undef = .pointer (some ⟨b3, 0, none⟩)) (h2 : a.tmps.getD 2 undef = .pointer (some ⟨b4, 0, none⟩))
    (ht : TabAt w m Φ) (hfo : FilesOk Φ) (c3 : w.cell? ⟨b3, 0, none⟩ = some (.pointer (some ⟨m + 3, 0, none⟩))) (c4 : w.cell? ⟨b4, 0, none⟩ = some (.slice (some ad) zs.length c)) (hi : i < zs.length) (hn : zs.length ≤ 9223372036854775807)
    (hz : ∀ j u, (intz zs)[j]? = some u → w.cell? (ad.add j) = some u)
    (hend : ∀ V W, V 7 = .int .i64 (ofK Φ zs i) → Below w.heap.size w W → Q .normal { a with tmps := frS (fun j => decide (j < 8)) V 0 dsE a.tmps } W) :
    (Code.region rid ops true).wp Tryd.prog Q a w := by
  have hlen : ops.size = 8 := by have := congrArg List.length hops; simpa using this
  have hop : ∀ (i : Nat) (o : Oper), ops[i]? = some o → ∀ x, opsE[i]? = some x → o.op = x := by
    intro i o ho x hx
    rw [← hops, List.getElem?_map, Array.getElem?_toList, ho] at hx
    simpa using hx
  have hlt : ∀ t, t < 14 → t < a.tmps.size := fun t ht => by omega
  have hzi : w.cell? (ad.add i) = some (.int .i64 (zs.getD i 0)) := hz i _ (intz_get zs i hi)
  have hkn : kindN (cluOf Φ (zs.getD i 0)) = ofK Φ zs i := by
    unfold ofK
    rw [if_neg (by omega)]
    rfl
  rw [← hlen] at hend
  refine wp_region_inv (by kernel_rfl) dsE hok
    (fun j => match j with | 0 => .pointer (some ⟨m + 3, 0, none⟩) | 1 => .slice (some ad) zs.length c | 2 => .int .i64 i | 3 => .pointer (some (ad.add i)) | 4 => .int .i64 (zs.getD i 0) | 5 => .string ⟨(cluOf Φ (zs.getD i 0)).toArray⟩ | 6 => .int .i64 (ofK Φ zs i) | 7 => .int .i64 (ofK Φ zs i) | _ => undef)
    (fun W => Below w.heap.size w W) ⟨rfl, rfl, rfl, Nat.le_refl _, fun _ _ => rfl⟩ ?_ (fun W hb => hend _ W rfl hb)
  intro k o ho ρ hρ hold hcon hfun _ W hb
  have hk : k < 8 := by rw [← hlen]; exact (Array.getElem?_eq_some_iff.1 ho).1
  have e0 : ρ (.tmp 0) = .int .i64 i := (hold 0 (by decide)).trans h0
  have e1 : ρ (.tmp 1) = .pointer (some ⟨b3, 0, none⟩) := (hold 1 (by decide)).trans h1
  have e2 : ρ (.tmp 2) = .pointer (some ⟨b4, 0, none⟩) := (hold 2 (by decide)).trans h2
  match k, hk with
  | 0, _ => exact .inl ⟨W, hb, .inl (r_loadPtr _ _ o _ (hop _ _ ho _ rfl) _ e1 _ (cell_later hb c3))⟩
  | 1, _ => exact .inl ⟨W, hb, .inl (r_loadInts _ _ o _ (hop _ _ ho _ rfl) _ e2 _ _ _ (cell_later hb c4))⟩
  | 2, _ => exact .inl ⟨W, hb, .inl (by have := r_move Tryd.prog ρ W o _ (hop _ _ ho _ rfl); rw [e0] at this; exact this)⟩
  | 3, _ => exact .inl ⟨W, hb, .inl (r_indexInt _ _ o _ _ (hop _ _ ho _ rfl) ad _ _ i (hρ 1 (needs2_get hnd 3 1 (by decide)) 8 rfl (hlt _ (by decide))) (hρ 2 (needs2_get hnd 3 2 (by decide)) 9 rfl (hlt _ (by decide))) hi hn)⟩
  | 4, _ => exact .inl ⟨W, hb, .inl (r_loadInt _ _ o _ (hop _ _ ho _ rfl) _ (hρ 3 (needs2_get hnd 4 3 (by decide)) 10 rfl (hlt _ (by decide))) _ (cell_later hb hzi))⟩
  | 5, _ =>
    refine .inr ⟨42, #[.pointer (some ⟨m + 3, 0, none⟩), .int .i64 (zs.getD i 0)], ?_, ?_⟩
    · have q1 := hρ 0 (needs2_get hnd 5 0 (by decide)) 7 rfl (hlt _ (by decide))
      have q2 := hρ 4 (needs2_get hnd 5 4 (by decide)) 11 rfl (hlt _ (by decide))
      unfold execOp
      rw [hop _ _ ho _ rfl]
      simp [go_sem, hfun, q1, q2, resolve, Act.eval]
    · refine (cluster_walk (ht.below hb) hfo _).mono ?_
      rintro e W' ⟨rfl, hb'⟩
      exact ⟨rfl, hb.trans (hb'.mono hb.size)⟩
  | 6, _ =>
    refine .inr ⟨41, #[.string ⟨(cluOf Φ (zs.getD i 0)).toArray⟩], ?_, ?_⟩
    · have q1 := hρ 5 (needs2_get hnd 6 5 (by decide)) 12 rfl (hlt _ (by decide))
      unfold execOp
      rw [hop _ _ ho _ rfl]
      simp [go_sem, hfun, q1, resolve, Act.eval]
    · refine (kind_walk _ W).mono ?_
      rintro e W' ⟨rfl, rfl⟩
      refine ⟨?_, hb⟩
      show _ = Ending.returned (.int .i64 (ofK Φ zs i))
      rw [show (⟨(cluOf Φ (zs.getD i 0)).toArray⟩ : ByteArray).toList = cluOf Φ (zs.getD i 0) from toBl _, hkn]
  | 7, _ =>
    have q1 := hρ 6 (needs2_get hnd 7 6 (by decide)) 13 rfl (hlt _ (by decide))
    exact .inl ⟨W, hb, .inl (by have := r_assign Tryd.prog ρ W o _ (hop _ _ ho _ rfl); rw [q1] at this; exact this)⟩
set_option maxRecDepth 100000 in
theorem of_walk {w : World} {m b3 b4 : Nat} {Φ : Files} {zs : List Int} {v : Value} (ht : TabAt w m Φ) (hfo : FilesOk Φ) (hl : ListAt w v zs) (c3 : w.cell? ⟨b3, 0, none⟩ = some (.pointer (some ⟨m + 3, 0, none⟩))) (c4 : w.cell? ⟨b4, 0, none⟩ = some v) (i : Int) (hi : i < zs.length) :
    Calls Tryd.prog 40 #[.int .i64 i, .pointer (some ⟨b3, 0, none⟩), .pointer (some ⟨b4, 0, none⟩)] w fun e w' => e = .returned (.int .i64 (ofK Φ zs i)) ∧ Below w.heap.size w w' := by
  by_cases hneg : i < 0
  · have e : ofK Φ zs i = 0 := by unfold ofK; rw [if_pos hneg]
    rw [e]
    have d1 : decide (i < 0) = true := by simpa using hneg
    clear hneg e
    go_enter Tryd.func40, Tryd.ntmps40
    go_wp2_with fail
    go_ret
    exact ⟨rfl, Below.refl _ _⟩
  · obtain ⟨q, rfl⟩ := Int.eq_ofNat_of_zero_le (show 0 ≤ i by omega)
    obtain ⟨A, c, rfl, hn, hz0⟩ := hl
    obtain ⟨ad, rfl, hz⟩ := hz0 (by omega)
    have d1 : decide ((q : Int) < 0) = false := by simp
    have HT := Lib.hid ht
    have Hz := Lib.hid hz
    have Hq := Lib.hid (show q < zs.length by omega)
    clear ht hz hz0 hneg hi
    go_enter Tryd.func40, Tryd.ntmps40
    go_wp2_with fail
    refine of_region _ _ _ _ w m b3 b4 q Φ zs ad c rfl (by kernel_rfl) (by kernel_rfl) (by simp) rfl rfl rfl HT.out hfo c3 c4 Hq.out hn Hz.out ?_
    intro V W hV hb
    simp [frS, stepS, Exit.then]
    rw [hV]
    have HB := Lib.hid hb
    clear hb
    go_wp2_with fail
    go_ret
    exact ⟨rfl, HB.out⟩
end Go.Proofs.YtmdkjljcnegmeaaDoor
