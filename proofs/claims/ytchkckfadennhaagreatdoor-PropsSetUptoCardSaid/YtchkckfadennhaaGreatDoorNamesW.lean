/- The names of properties: names.Loose, names.number. -/
import Derived.Test.YtchkckfadennhaaGreatDoorNameP
import Derived.Test.YtchkckfadennhaaGreatDoorLod
import Derived.Laws.BytesArg
import Derived.Laws.IdiomStrings
namespace Go.Proofs.YtchkckfadennhaaGreatDoor
open Go.RowKit
set_option linter.unusedVariables false
set_option linter.unusedSimpArgs false

theorem slB : SlT Tryz.prog 135 5 1 1 := ⟨Tryz.underlying135, by kernel_rfl, by decide, by decide⟩
def byz (l : Sp.Str) : List Value := l.map fun b => .int .u8 (b.toNat : Int)
theorem byz_get (l : Sp.Str) (j : Nat) (hj : j < l.length) : (byz l)[j]? = some (.int .u8 (l[j].toNat : Int)) := by
  unfold byz
  rw [List.getElem?_map, List.getElem?_eq_getElem hj]
  rfl
abbrev StrO (w : World) (B : Nat) (v : Value) (l : Sp.Str) : Prop := w.ownsRow B 5 1 v l.length (byz l)
theorem conv_str {w : World} {B : Nat} {v : Value} {l : Sp.Str} (h : StrO w B v l) : (convert 135 9 v).run Tryz.prog w = .ok (.string ⟨l.toArray⟩) w := by
  rcases h.2 with ⟨rfl, h0⟩ | ⟨g, cap, cur, rfl, _⟩
  · obtain rfl := List.length_eq_zero_iff.1 h0
    rw [run_convert_bytes_nil w 135 5 Tryz.underlying135 Tryz.underlying5 0 0 9 Tryz.underlying9]
    rfl
  · refine run_convert_bytes_back (P := Tryz.prog) w 135 9 5 ⟨g, 0, none⟩ cap l Tryz.underlying135 Tryz.underlying5 Tryz.underlying9 ?_
    intro j hj
    rw [add_plain, Nat.zero_add]
    exact own_cell h j _ (byz_get l j hj)
theorem or32 (n : Nat) (h1 : 65 ≤ n) (h2 : n ≤ 90) : bits .or .u8 (n : Int) 32 = ((n + 32 : Nat) : Int) := by
  have h : ∀ m : Fin 91, 65 ≤ m.val → bits .or .u8 (m.val : Int) 32 = ((m.val + 32 : Nat) : Int) := by decide
  exact h ⟨n, by omega⟩ h1
theorem looseB_skip {c : UInt8} (h : c.toNat = 32 ∨ c.toNat = 45 ∨ c.toNat = 95) : Sp.looseB c = none := by
  unfold Sp.looseB
  rw [if_pos]
  rcases h with h | h | h
  · exact .inl (UInt8.toNat_inj.1 h)
  · exact .inr (.inl (UInt8.toNat_inj.1 h))
  · exact .inr (.inr (UInt8.toNat_inj.1 h))
theorem looseB_up {c : UInt8} (h1 : 65 ≤ c.toNat) (h2 : c.toNat ≤ 90) : ∃ d : UInt8, Sp.looseB c = some d ∧ d.toNat = c.toNat + 32 := by
  by_cases h0 : c.toNat = 32 ∨ c.toNat = 45 ∨ c.toNat = 95
  · omega
  refine ⟨c + 32, ?_, ?_⟩
  · unfold Sp.looseB
    rw [if_neg (fun h => h0 (by rcases h with rfl | rfl | rfl <;> simp)), if_pos ⟨UInt8.le_iff_toNat_le.2 h1, UInt8.le_iff_toNat_le.2 h2⟩]
  · rw [UInt8.toNat_add]
    have : (32 : UInt8).toNat = 32 := rfl
    omega
theorem looseB_else {c : UInt8} (h0 : ¬ (c.toNat = 32 ∨ c.toNat = 45 ∨ c.toNat = 95)) (h1 : ¬ (65 ≤ c.toNat ∧ c.toNat ≤ 90)) : Sp.looseB c = some c := by
  unfold Sp.looseB
  rw [if_neg (fun h => h0 (by rcases h with rfl | rfl | rfl <;> simp)), if_neg (fun h => h1 (by
    have a := UInt8.le_iff_toNat_le.1 h.1
    have b := UInt8.le_iff_toNat_le.1 h.2
    exact ⟨a, b⟩))]
theorem looseGo_take (s : ByteArray) (k : Nat) (hk : k < s.size) : Sp.looseGo (s.data.toList.take (k + 1)) = Sp.looseGo (s.data.toList.take k) ++ (Sp.looseB s[k]).toList := by
  rw [Sp.take_snoc s k hk, Sp.looseGo_snoc]

theorem isPre (l : Sp.Str) : Lib.hasPrefix l [105, 115] = true ↔ l.take 2 = [105, 115] := by
  unfold Lib.hasPrefix
  rw [List.isPrefixOf_iff_prefix, List.prefix_iff_eq_take]
  exact eq_comm

/-- What Loose says. -/
def LooseSaid (s : ByteArray) (w : World) (e : Ending) (w' : World) : Prop := e = .returned (strV (Sp.loose s.data.toList)) ∧ Below w.heap.size w w'
set_option maxRecDepth 100000 in
theorem loose_walk (s : ByteArray) (w : World) (hs : s.size ≤ 2000000) : Calls Tryz.prog 75 #[.string s] w (LooseSaid s w) := by
  have kc := fun w : World => run_bytes_of_string (P := Tryz.prog) w 9 135 5 s Tryz.underlying9 Tryz.underlying135 Tryz.underlying5
  obtain ⟨W0, hW0⟩ : ∃ W0, W0 = w.drew.alloc (.cells (bytesRow s (grownCap w s.size 0 5)) 5 ((bytesRow s (grownCap w s.size 0 5)).size, (bytesRow s (grownCap w s.size 0 5)).size + 1)) := ⟨_, rfl⟩
  have kc0 := kc w
  rw [← hW0] at kc0
  have hcell : ∀ k (hk : k < s.size), W0.cell? ⟨w.heap.size, k, none⟩ = some (.int .u8 ((s[k]'hk).toNat : Int)) := fun k hk => by
    rw [hW0]
    have h1 := World.cell?_alloc_mark w.drew (bytesRow s (grownCap w s.size 0 5)) 5 ((bytesRow s (grownCap w s.size 0 5)).size, (bytesRow s (grownCap w s.size 0 5)).size + 1) k
    exact h1.trans (bytesRow_at s _ k hk)
  have hb0 : Below w.heap.size w W0 := by
    rw [hW0]
    exact (show Below w.heap.size w w.drew from ⟨rfl, rfl, rfl, Nat.le_refl _, fun _ _ => rfl⟩).trans (alloc_below w.drew _)
  have hsz0 : w.heap.size < W0.heap.size := by rw [hW0]; show w.heap.size < (w.drew.alloc _).heap.size; rw [size_new]; exact Nat.lt_succ_self _
  have Hcell := Lib.hid hcell
  generalize grownCap w s.size 0 5 = cp at *
  clear kc hW0 hcell
  go_enter Tryz.func75, Tryz.ntmps75
  go_wp2_with fail
  go_loopw [3, 12] (fun v i wr => ∃ k : Nat, k ≤ s.size ∧ i = .int .i64 k ∧ Hid (StrO wr W0.heap.size v (Sp.looseGo (s.data.toList.take k))) ∧ Hid (Below W0.heap.size W0 wr)) (fun _ i _ => s.size - (intOf i).toNat)
  case atStart => exact ⟨0, by omega, rfl, World.ownsRow_nil _ _ _ _, Below.refl _ _⟩
  case round =>
    obtain ⟨k, hk, rfl, HR, HB⟩ := hrel
    by_cases hlt : k < s.size
    · have hc : wr.cell? ⟨w.heap.size, k, none⟩ = some (.int .u8 ((s[k]'hlt).toNat : Int)) := (HB.out.cell (p := ⟨_, _, _⟩) hsz0).trans (Hcell.out k hlt)
      have Hsn := Lib.hid (looseGo_take s k hlt)
      have hll := Sp.looseGo_len (s.data.toList.take k)
      rw [List.length_take] at hll
      have hn := (s[k]'hlt).toNat_lt
      generalize (s[k]'hlt) = c at *
      generalize Sp.looseGo (s.data.toList.take k) = l at *
      by_cases h0 : c.toNat = 32 ∨ c.toNat = 45 ∨ c.toNat = 95
      · have Hs2 := Lib.hid (show Sp.looseGo (s.data.toList.take (k + 1)) = l by rw [Hsn.out, looseB_skip h0]; simp)
        clear Hsn
        generalize c.toNat = n at *
        rcases h0 with rfl | rfl | rfl
        all_goals
          go_wp2_with fail
          go_roundw
          case rel => exact ⟨k + 1, by omega, by go_num, (by show StrO _ _ _ _; rw [Hs2.out]; exact HR.out), HB⟩
          case measure => simp [intOf]; omega
      · by_cases h1 : 65 ≤ c.toNat ∧ c.toNat ≤ 90
        · obtain ⟨d, hd, hdn⟩ := looseB_up h1.1 h1.2
          have Hs2 := Lib.hid (show Sp.looseGo (s.data.toList.take (k + 1)) = l ++ [d] by rw [Hsn.out, hd]; simp)
          have ho := or32 c.toNat h1.1 h1.2
          rw [← hdn] at ho
          have Hd := Lib.hid hdn
          clear Hsn hd hdn
          generalize c.toNat = n at *
          have e1 : ((n : Int) == 32) = false := beq_eq_false_iff_ne.2 (by omega)
          have e2 : ((n : Int) == 45) = false := beq_eq_false_iff_ne.2 (by omega)
          have e3 : ((n : Int) == 95) = false := beq_eq_false_iff_ne.2 (by omega)
          have e4 : decide ((65 : Int) ≤ (n : Int)) = true := decide_eq_true (by omega)
          have e5 : decide ((n : Int) ≤ 90) = true := decide_eq_true (by omega)
          have hbt : (l.length + 1) * 1 ≤ 140737488355328 := by omega
          go_wp2_with (at_builtin; refine wp_append_new slB rfl (.tmp 36) (.tmp 38) rfl W0.heap.size u3 _ _ rfl (by exact HR.out) #[.int .u8 (d.toNat : Int)] rfl rfl (by simp [Value.oneCell']) (by exact hbt) (by exact HB.out.size) ?_; intro v5 w5 hown5 hg5; have HB5 := Lib.hid (HB.out.grown hg5 HB.out.size (fun k hk => (own_lt HR.out k hk).1)); clear hg5)
          go_roundw
          case rel => exact ⟨k + 1, by omega, by go_num, (by
            show StrO _ _ _ _
            rw [Hs2.out]
            unfold byz at hown5
            unfold StrO byz
            rw [List.map_append, List.length_append]
            exact hown5), HB5⟩
          case measure => simp [intOf]; omega
        · have Hs2 := Lib.hid (show Sp.looseGo (s.data.toList.take (k + 1)) = l ++ [c] by rw [Hsn.out, looseB_else h0 h1]; simp)
          clear Hsn
          generalize hn' : c.toNat = n at *
          have Hn := Lib.hid hn'
          clear hn'
          have e1 : ((n : Int) == 32) = false := beq_eq_false_iff_ne.2 (by omega)
          have e2 : ((n : Int) == 45) = false := beq_eq_false_iff_ne.2 (by omega)
          have e3 : ((n : Int) == 95) = false := beq_eq_false_iff_ne.2 (by omega)
          have hbt : (l.length + 1) * 1 ≤ 140737488355328 := by omega
          by_cases h2 : 65 ≤ n
          · have e4 : decide ((65 : Int) ≤ (n : Int)) = true := decide_eq_true (by omega)
            have e5 : decide ((n : Int) ≤ 90) = false := decide_eq_false (by omega)
            go_wp2_with (at_builtin; refine wp_append_new slB rfl (.tmp 36) (.tmp 38) rfl W0.heap.size u3 _ _ rfl (by exact HR.out) #[.int .u8 (n : Int)] rfl rfl (by simp [Value.oneCell']) (by exact hbt) (by exact HB.out.size) ?_; intro v5 w5 hown5 hg5; have HB5 := Lib.hid (HB.out.grown hg5 HB.out.size (fun k hk => (own_lt HR.out k hk).1)); clear hg5)
            go_roundw
            case rel => exact ⟨k + 1, by omega, by go_num, (by
              show StrO _ _ _ _
              rw [Hs2.out]
              unfold byz at hown5
              unfold StrO byz
              rw [List.map_append, List.length_append]
              rw [← Hn.out] at hown5
              exact hown5), HB5⟩
            case measure => simp [intOf]; omega
          · have e4 : decide ((65 : Int) ≤ (n : Int)) = false := decide_eq_false (by omega)
            go_wp2_with (at_builtin; refine wp_append_new slB rfl (.tmp 36) (.tmp 38) rfl W0.heap.size u3 _ _ rfl (by exact HR.out) #[.int .u8 (n : Int)] rfl rfl (by simp [Value.oneCell']) (by exact hbt) (by exact HB.out.size) ?_; intro v5 w5 hown5 hg5; have HB5 := Lib.hid (HB.out.grown hg5 HB.out.size (fun k hk => (own_lt HR.out k hk).1)); clear hg5)
            go_roundw
            case rel => exact ⟨k + 1, by omega, by go_num, (by
              show StrO _ _ _ _
              rw [Hs2.out]
              unfold byz at hown5
              unfold StrO byz
              rw [List.map_append, List.length_append]
              rw [← Hn.out] at hown5
              exact hown5), HB5⟩
            case measure => simp [intOf]; omega
    · obtain rfl : k = s.size := by omega
      have h1 := HR.out
      rw [show s.data.toList.take s.size = s.data.toList from List.take_of_length_le (by rw [Array.length_toList]; exact Nat.le_refl _)] at h1
      have kc2 := conv_str h1
      have HB1 := Lib.hid (hb0.trans (HB.out.mono hb0.size))
      have hfin : ∀ x, x = Sp.lessIs (Sp.looseGo s.data.toList) → LooseSaid s w (.returned (.string ⟨x.toArray⟩)) wr := fun x hx => ⟨by rw [hx]; rfl, HB1.out⟩
      have Hfin := Lib.hid hfin
      generalize Sp.looseGo s.data.toList = l at *
      have Hcp := Lib.hid (Tryz.strings_CutPrefix ⟨l.toArray⟩ ⟨#[105, 115]⟩ wr)
      clear HR HB h1 hfin
      go_wp2_with fail
      refine Hcp.out.mono ?_
      rintro e w1 ⟨rfl, rfl⟩
      obtain ⟨p, hp⟩ : ∃ p, Lib.hasPrefix (ByteArray.mk l.toArray).data.toList (ByteArray.mk #[105, 115]).data.toList = p := ⟨_, rfl⟩
      obtain ⟨q, hq⟩ : ∃ q, Lib.trimPrefix (ByteArray.mk l.toArray).data.toList (ByteArray.mk #[105, 115]).data.toList = q := ⟨_, rfl⟩
      rw [hp, hq]
      cases p with
      | false =>
        have hlt := Hfin.out l (by
          unfold Sp.lessIs
          rw [if_neg]
          rintro ⟨h, _⟩
          have := (isPre l).2 h
          exact absurd (hp.symm.trans this) (by decide))
        clear Hfin hp hq kc2
        go_wp2_with fail
        go_ret
        exact hlt
      | true =>
        have hpt := (isPre l).1 hp
        have hq2 : q = l.drop 2 := by
          rw [← hq]
          show Lib.trimPrefix l [105, 115] = _
          unfold Lib.trimPrefix
          rw [if_pos (show Lib.hasPrefix l [105, 115] = true from hp)]
          rfl
        by_cases h2 : 2 < l.length
        · have hne : q.isEmpty = false := by
            rw [hq2]
            show (l.drop 2).isEmpty = false
            rw [List.isEmpty_eq_false_iff, ne_eq, List.drop_eq_nil_iff]
            omega
          have hlt := Hfin.out q (by unfold Sp.lessIs; rw [if_pos ⟨hpt, h2⟩, hq2])
          clear Hfin hp hq kc2 hpt hq2
          go_wp2_with fail
          go_ret
          exact hlt
        · have hne : q.isEmpty = true := by
            rw [hq2]
            show (l.drop 2).isEmpty = true
            rw [List.isEmpty_iff, List.drop_eq_nil_iff]
            omega
          have hlt := Hfin.out l (by unfold Sp.lessIs; rw [if_neg (fun h => h2 h.2)])
          clear Hfin hp hq kc2 hpt hq2
          go_wp2_with fail
          go_ret
          exact hlt

theorem number_walk (l : Sp.Str) (w : World) : Calls Tryz.prog 47 #[.string ⟨l.toArray⟩] w fun e w' => e = .returned (.int .i64 (Sp.numb l)) ∧ w = w' := by
  have hl : (ByteArray.mk l.toArray).toList = l := by rw [Lib.toList_data]
  by_cases h1 : l = [103, 99]
  · subst h1
    go_enter Tryz.func47, Tryz.ntmps47
    go_wp2_with fail
    go_ret
    exact ⟨rfl, rfl⟩
  · have hn1 : (l == [103, 99]) = false := beq_eq_false_iff_ne.2 h1
    by_cases h2 : l = [115, 99]
    · subst h2
      clear hn1 h1 hl
      go_enter Tryz.func47, Tryz.ntmps47
      go_wp2_with fail
      go_ret
      exact ⟨rfl, rfl⟩
    · have hn2 : (l == [115, 99]) = false := beq_eq_false_iff_ne.2 h2
      have hk : Sp.numb l = 3 := by unfold Sp.numb Sp.gc Sp.sc; rw [if_neg h1, if_neg h2]
      rw [hk]
      clear hk h1 h2 hl
      go_enter Tryz.func47, Tryz.ntmps47
      go_wp2_with fail
      go_ret
      exact ⟨rfl, rfl⟩
end Go.Proofs.YtchkckfadennhaaGreatDoor
