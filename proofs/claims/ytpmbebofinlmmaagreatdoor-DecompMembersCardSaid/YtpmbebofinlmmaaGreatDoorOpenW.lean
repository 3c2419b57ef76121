/- A slice of ints, whose elements fit; slices.Clone and slices.Equal of any slice of ints. -/
import Derived.Test.YtpmbebofinlmmaaGreatDoorOpen
import Derived.Test.YtpmbebofinlmmaaGreatDoorAppM
import Derived.Test.YtpmbebofinlmmaaGreatDoorBase
import Derived.Lib.SliceRun
namespace Go.Proofs.YtpmbebofinlmmaaGreatDoor
open Go.RowKit Go.ChangeShapes Go.WideShapes Go.ChangeAt
set_option linter.unusedVariables false
set_option linter.unusedSimpArgs false

def ListW (w : World) (v : Value) (zs : List Int) : Prop := ListV w v zs ∧ ∀ z ∈ zs, (Lit.int .i64 z).wf = true
set_option maxRecDepth 100000 in
theorem open_listW {H : Type} {enc : TypeId × Value → H} {w : World} {r : Reach} {base : Nat} {v : Value} {d : DataW H} {ps : List MemPlace} (hval : Value.okWide Tryz.prog w r base 42 v) (hd : DataW.Trod enc Tryz.prog w 0 (fun _ => true) true 42 v d ps) : ∃ zs, ListW w v zs := by
  obtain ⟨A, n, c, rfl⟩ := open_list Tryz.underlying42 hval
  obtain ⟨m, hm⟩ := hd
  rcases open_ints Tryz.underlying42 Tryz.underlying3 (by kernel_rfl) hm with ⟨h, _⟩ | ⟨a, len, cap, zs, h, _, hl, hc, hz, _, hcell, hwf⟩
  · have e : Value.slice A n c = .slice none 0 0 := by simpa [Value.cells] using h
    injection e with e1 e2 e3
    subst e1 e2 e3
    exact ⟨[], ⟨⟨none, 0, rfl, by decide, fun h => absurd h (by decide)⟩, .inl rfl⟩, fun z hz => by cases hz⟩
  · have e : Value.slice A n c = .slice (some a) len cap := by simpa [Value.cells] using h
    injection e with e1 e2 e3
    subst e1 e2 e3
    unfold maxLen at hc
    have hzl : zs.length = c := by simpa using hz
    have htl : (zs.take n).length = n := by rw [List.length_take]; omega
    refine ⟨zs.take n, ⟨⟨some a, c, by rw [htl], by omega, fun _ => ⟨a, rfl, fun j u hu => ?_⟩⟩, .inr ⟨a, n, c, rfl, hl⟩⟩, fun z hz => hwf z (List.mem_of_mem_take hz)⟩
    have hj : j < n := by
      have := (List.getElem?_eq_some_iff.1 hu).1
      unfold intz at this
      rw [List.length_map, htl] at this
      exact this
    rw [hcell j (by omega)]
    have := intz_get (zs.take n) j (by omega)
    rw [this] at hu
    rw [← hu]
    congr 2
    rw [List.getD_eq_getElem?_getD, List.getD_eq_getElem?_getD, List.getElem?_take, if_pos hj]
theorem slIntW : SlT Tryz.prog 42 3 1 8 := ⟨Tryz.underlying42, by kernel_rfl, by decide, by decide⟩
theorem own_zero (W : World) (e : TypeId) (B : Nat) (hB : B ≤ W.heap.size) : (W.alloc (.cells #[] e)).ownsRow B e 1 (.slice (some ⟨W.heap.size, 0, none⟩) 0 0) 0 [] :=
  ⟨rfl, .inr ⟨W.heap.size, 0, #[], rfl, hB, row_new _ _, Nat.le_refl _, Nat.zero_le _, rfl, rfl⟩⟩
set_option maxRecDepth 100000 in
theorem clonev_walk {w : World} {v : Value} {zs : List Int} (h : ListV w v zs) (hl : zs.length ≤ 1000000) : Calls Tryz.prog 49 #[v] w (CloneSaid zs w) := by
  obtain ⟨A, c, rfl, hnc, hn, hA⟩ := h.form
  have q22 : ∀ (w : World) (a : Option Addr) (n c n' c' : Nat), (binOp .eql 42 (.slice a n c) (.slice none n' c')).run Tryz.prog w = .ok (.bool a.isNone) w := fun w a n c n' c' => Lib.run_eql_slice_nil w _ _ a n c n' c' Tryz.underlying42
  have hba := alloc_below w (Obj.cells #[] 3)
  cases A with
  | none =>
    have h0 : zs = [] := by
      rcases h.2 with h | ⟨ad, n, c', h, _⟩
      · injection h with _ h2 _
        exact List.length_eq_zero_iff.1 h2
      · cases h
    subst h0
    clear h hA hba
    go_enter Tryz.func49, Tryz.ntmps49
    go_wp2_with fail
    go_ret
    exact ⟨_, rfl, World.ownsRow_nil _ _ _ _, Below.refl _ _⟩
  | some ad =>
    obtain ⟨A', c', e, _, hz⟩ := h.1
    injection e with e1 e2 e3
    subst e1 e3
    have HC := Lib.hid (show ∀ ad', some ad = some ad' → ∀ j u, (intz zs)[j]? = some u → (w.alloc (Obj.cells #[] 3)).cell? (ad'.add j) = some u by
      rintro ad' e j u hu
      cases e
      have hp : 0 < zs.length := by
        have := (List.getElem?_eq_some_iff.1 hu).1
        unfold intz at this
        rw [List.length_map] at this
        omega
      obtain ⟨ad2, h4, h5⟩ := hz hp
      cases h4
      exact cell_later hba (h5 j u hu))
    have HO := Lib.hid (own_zero w 3 w.heap.size (Nat.le_refl _))
    have HB := Lib.hid hba
    clear h hA hba hz e2
    go_enter Tryz.func49, Tryz.ntmps49
    go_wp2_with (at_builtin; refine wp_append_more (w.alloc (Obj.cells #[] 3)) slIntW rfl (.tmp 5) (.tmp 6) rfl w.heap.size _ 0 [] rfl (by exact HO.out) (some ad) zs.length c (intz zs) rfl (by intro h; cases h) (by simp [intz]) HC.out (by intro u hu; unfold intz at hu; obtain ⟨_, _, rfl⟩ := List.mem_map.1 hu; rfl) (by omega) HB.out.size ?_; intro v3 w3 hown hg; have HB3 := Lib.hid (HB.out.grown hg HB.out.size (fun k hk => by have e : w.heap.size = k := Option.some.inj (show some w.heap.size = some k from hk); omega)); have HO3 := Lib.hid hown; clear hown hg)
    go_ret
    refine ⟨_, rfl, ?_, HB3.out⟩
    have := HO3.out
    rw [Nat.zero_add, List.nil_append] at this
    exact this
set_option maxRecDepth 100000 in
theorem equalv_walk {w : World} {v u : Value} {zs : List Int} (h : ListAt w v zs) (h' : ListAt w u zs) : Calls Tryz.prog 27 #[v, u] w fun e w' => e = .returned (.bool true) ∧ Below w.heap.size w w' := by
  obtain ⟨A, c, rfl, hn, hz⟩ := h
  obtain ⟨A', c', rfl, _, hz'⟩ := h'
  have HZ := Lib.hid hz
  have HZ' := Lib.hid hz'
  have g0 : (((zs.length : Nat) : Int) != ((zs.length : Nat) : Int)) = false := by simp
  clear hz hz'
  go_enter Tryz.func27, Tryz.ntmps27
  go_wp2_with fail
  go_loopw [13] (fun i wr => ∃ k : Nat, k ≤ zs.length ∧ i = .int .i64 k ∧ Hid (Below w.heap.size w wr)) (fun i _ => zs.length - (intOf i).toNat)
  case atStart => exact ⟨0, by omega, rfl, Below.refl _ _⟩
  case round =>
    obtain ⟨k, hk, rfl, HB⟩ := hrel
    by_cases hlt : k < zs.length
    · obtain ⟨ad, rfl, had⟩ := HZ.out (by omega)
      obtain ⟨ad', rfl, had'⟩ := HZ'.out (by omega)
      obtain ⟨x, hx⟩ : ∃ x, x = zs.getD k 0 := ⟨_, rfl⟩
      have c0 : wr.cell? (ad.add k) = some (.int .i64 x) := by rw [hx]; exact cell_later HB.out (had k _ (intz_get zs k hlt))
      have c1 : wr.cell? (ad'.add k) = some (.int .i64 x) := by rw [hx]; exact cell_later HB.out (had' k _ (intz_get zs k hlt))
      have g1 : (x != x) = false := by simp
      clear had had' hx
      go_wp2_with fail
      go_quiet (fail)
      simp only [Exit.then]
      go_wp2_with fail
      refine ⟨⟨k + 1, by omega, by go_num, HB.out.trans ((below_drewN _ _).mono HB.out.size)⟩, ?_⟩
      simp [intOf]
      omega
    · have hkl : k = zs.length := by omega
      subst hkl
      go_wp2_with fail
      go_ret
      exact ⟨rfl, HB.out⟩
end Go.Proofs.YtpmbebofinlmmaaGreatDoor
