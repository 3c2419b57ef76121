/- rubricatorlaw08.NormNobody answers true where its arguments hold together at most 1048576 values (a greater list of code points makes a slice of items that passes what a slice may take). -/
import Derived.Test.YthoegenipbohmaaGreatDoorNormM
import Derived.Test.YthoegenipbohmaaGreatDoorRef8M
import Derived.Test.YthoegenipbohmaaGreatDoorNoneW
import Derived.Test.YthoegenipbohmaaGreatDoorRowM
namespace Go.Proofs.YthoegenipbohmaaGreatDoor
open Go.RowKit Go.Sort Stb
set_option linter.unusedVariables false
set_option linter.unusedSimpArgs false
theorem fulln_none (w : World) (p : Option Addr) (h : TbNone w p) (r : Int) : Calls Tryz.prog 43 #[.pointer p, .int .i64 r] w fun e w' => e = .returned (.slice none 0 0) ∧ w = w' := by
  have HC := Lib.hid (category_none _ _ h 0)
  clear h
  go_enter Tryz.func43, Tryz.ntmps43
  go_wp2_with (go_at_call 65; refine HC.out.mono ?_; rintro e w' ⟨rfl, rfl⟩)
  refine wp_scope_label 0 (fun _ _ _ => False) rfl ?_ ?_
  · intro n a w1 h
    exact h.elim
  · intro _
    go_wp2_with (go_at_call 65; refine HC.out.mono ?_; rintro e w' ⟨rfl, rfl⟩)
    simp only [Exit.jump]
    go_ret
    exact ⟨rfl, rfl⟩
theorem combn_none (w : World) (p : Option Addr) (h : TbNone w p) (r : Int) : Calls Tryz.prog 44 #[.pointer p, .int .i64 r] w fun e w' => e = .returned (.int .i64 0) ∧ w = w' := by
  go_enter Tryz.func44, Tryz.ntmps44
  go_wp2_with (go_at_call 78; refine (tbnone _ _ h).mono ?_; rintro e w' ⟨rfl, rfl⟩)
  go_ret
  exact ⟨rfl, rfl⟩
theorem nfdG_none (xs : List It) : nfdG (fun _ => []) (fun _ => 0) xs = [] := by
  have h : partsG (fun _ => []) (fun _ => 0) xs = [] := by
    unfold partsG
    induction xs with
    | nil => rfl
    | cons x xs ih => rw [List.flatMap_cons, ih]; rfl
  unfold nfdG
  rw [h]
  rfl
theorem items_noneN {w : World} {p : Option Addr} (h : TbNone w p) {v : Value} {xs : List It} (hx : ItsAt w v xs) (hwf : ∀ x ∈ xs, (Lit.int .i64 x.r).wf = true) (hl : xs.length ≤ 1048576) : Calls Tryz.prog 15 #[.pointer p, v] w (ItemsSaid [] w) := by
  have hp : partsG (fun _ => []) (fun _ => 0) xs = [] := by
    unfold partsG
    clear hx hwf hl
    induction xs with
    | nil => rfl
    | cons x xs ih => rw [List.flatMap_cons, ih]; rfl
  have := items_walk (D := fun _ => []) (K := fun _ => 0) (T := .pointer p) (w := w) (fun W hW r _ => (fulln_none W p (h.below hW) r).mono fun e w' ⟨h1, h2⟩ => ⟨_, h1, World.ownsRow_nil _ _ _ _, by subst h2; exact Below.refl _ _⟩) (fun W hW r => (combn_none W p (h.below hW) r).mono fun e w' ⟨h1, h2⟩ => ⟨h1, by subst h2; exact Below.refl _ _⟩) (fun _ => Int.le_refl _) hx hwf (by rw [hp]; simp) (by omega)
  rw [nfdG_none] at this
  exact this
set_option maxRecDepth 100000 in
set_option maxHeartbeats 3200000 in
theorem runes_noneN {w : World} {p : Option Addr} (h : TbNone w p) {v : Value} {zs : List Int} (hz : ListAt w v zs) (hwf : ∀ z ∈ zs, (Lit.int .i64 z).wf = true) (hl : zs.length ≤ 1048576) : Calls Tryz.prog 24 #[.pointer p, v] w (CloneSaid [] w) := by
  have HZ := Lib.hid hz
  have HT := Lib.hid h
  obtain ⟨A1, c1, rfl, hn1, _⟩ := hz
  have HW := Lib.hid hwf
  clear h hwf
  go_enter Tryz.func24, Tryz.ntmps24
  go_wp2_with fail
  go_loopw [5, 13] (fun vo i wr => ∃ k : Nat, k ≤ zs.length ∧ i = .int .i64 k ∧ Hid (ItemsAt wr w.heap.size vo ((zs.take k).map zit)) ∧ Hid (Below w.heap.size w wr)) (fun _ i _ => zs.length - (intOf i).toNat)
  case atStart => exact ⟨0, by omega, rfl, World.ownsRow_nil _ _ _ _, Below.refl _ _⟩
  case round =>
    obtain ⟨k, hk, rfl, HO, HB⟩ := hrel
    by_cases hlt : k < zs.length
    · obtain ⟨A', c', e', _, hzz⟩ := HZ.out.below HB.out
      injection e' with e1 _ e3
      obtain ⟨ad, hA, hcell⟩ := hzz (by omega)
      rw [← e1] at hA
      subst hA
      have cx := hcell k _ (intz_get zs k hlt)
      obtain ⟨x, hx⟩ : ∃ x, x = zs.getD k 0 := ⟨_, rfl⟩
      rw [← hx] at cx
      have hxe : zs[k] = x := by rw [hx, List.getD_eq_getElem?_getD, List.getElem?_eq_getElem hlt]; rfl
      have HS := Lib.hid (show (zs.take k).map zit ++ [zit x] = (zs.take (k + 1)).map zit by rw [List.take_succ_eq_append_getElem hlt, List.map_append, hxe]; rfl)
      have hql : ((zs.take k).map zit).length = k := by rw [List.length_map, List.length_take]; omega
      obtain ⟨Ao, co, hvo⟩ := own_slice HO.out
      subst hvo
      have HO1 := Lib.hid (show wr.ownsRow w.heap.size 25 3 (.slice Ao ((zs.take k).map zit).length co) k (((zs.take k).map zit).flatMap itCells) by
        have := HO.out
        unfold ItemsAt at this
        rwa [hql] at this ⊢)
      rw [hql] at HO1 ⊢
      clear hzz hcell hx hxe e1 e3 hql HO
      go_wp2_with (at_builtin; refine wp_append_lit slItem rfl (.tmp 17) (.tmp 20) rfl w.heap.size (.slice Ao k co) k (((zs.take k).map zit).flatMap itCells) rfl (by exact HO1.out) #[.int .i64 x, .int .i64 0, .int .i64 0] rfl rfl (by simp [Value.oneCell']) (by omega) (by exact HB.out.size) ?_; intro v6 w6 hown6 hg6; have HO6 := Lib.hid hown6; have HB6 := Lib.hid (HB.out.grown hg6 HB.out.size (fun k hk => (own_lt HO1.out k hk).1)); clear hown6 hg6)
      go_roundw
      case rel => exact ⟨k + 1, by omega, by go_num, (show ItemsAt _ _ _ _ by
        unfold ItemsAt
        rw [show ((zs.take (k + 1)).map zit).length = k + 1 by rw [List.length_map, List.length_take]; omega, ← HS.out, ← items_snoc]
        exact HO6.out), HB6⟩
      case measure => simp [intOf]; omega
    · have hke : k = zs.length := by omega
      subst hke
      have HO1 := Lib.hid (show ItemsAt wr w.heap.size _ (zs.map zit) by have := HO.out; rwa [List.take_length] at this)
      clear HO
      have hwz : ∀ x ∈ zs.map zit, (Lit.int .i64 x.r).wf = true := fun x hx => by
        obtain ⟨z, hz, rfl⟩ := List.mem_map.1 hx
        exact HW.out z hz
      have HIW := Lib.hid (items_noneN (HT.out.below HB.out) (ItsAt.of_own HO1.out) hwz (by rw [List.length_map]; exact hl))
      clear HO1 hwz
      go_wp2_with fail
      refine HIW.out.mono ?_
      rintro e w2 ⟨v25, rfl, hv25, hb2⟩
      have HB2 := Lib.hid (HB.out.trans (hb2.mono HB.out.size))
      obtain ⟨A25, c25, rfl⟩ := own_slice hv25
      clear hv25 hb2 HIW HB
      go_wp2_with fail
      go_loopw [8, 27] (fun vo i wx => vo = .slice none 0 0 ∧ i = .int .i64 0 ∧ w2 = wx) (fun _ i _ => 0)
      case atStart => exact ⟨rfl, rfl, rfl⟩
      case round =>
        obtain ⟨rfl, rfl, rfl⟩ := hrel
        go_wp2_with fail
        go_ret
        exact ⟨_, rfl, World.ownsRow_nil _ _ _ _, HB2.out⟩
theorem is_noneN (w : World) (p : Option Addr) (h : TbNone w p) (v : Value) : Calls Tryz.prog 26 #[.pointer p, v] w fun e w' => e = .returned (.bool false) ∧ w = w' := by
  have HC := Lib.hid (category_none _ _ h 0)
  clear h
  go_enter Tryz.func26, Tryz.ntmps26
  go_wp2_with fail
  refine HC.out.mono ?_
  rintro e w1 ⟨rfl, rfl⟩
  clear HC
  go_wp2_with fail
  go_ret
  exact ⟨rfl, rfl⟩
set_option maxRecDepth 100000 in
theorem normNobody_walk {v0 v1 : Value} {xs : List It} {zs : List Int} (w : World) (hx0 : ItsV w v0 xs ∧ ∀ x ∈ xs, (Lit.int .i64 x.r).wf = true) (hz0 : ListW w v1 zs) (hxl : xs.length ≤ 1048576) (hzl : zs.length ≤ 1048576) (hE : Env w) (hT : EnvT w) (hH : Hang w) : Calls Tryz.prog 6 #[v0, v1] w fun e w' => e = .returned (.bool true) ∧ Below w.heap.size w w' := by
  have HA := Lib.hid (fun (W : World) (hb : Below w.heap.size w W) => awake08_walk W (hE.below hb) (hT.below hb) (hH.below hb))
  have HX := Lib.hid hx0.1.1
  have HXw := Lib.hid hx0.2
  have HZ := Lib.hid hz0.1.1
  have HZw := Lib.hid hz0.2
  clear hE hT hH hx0 hz0
  go_enter Tryz.func6, Tryz.ntmps6
  go_wp2
  obtain ⟨W1, hW1⟩ : ∃ W1, W1 = (w.alloc (Obj.cells #[Value.pointer none, Value.pointer none, Value.pointer none, Value.pointer none, Value.pointer none, Value.slice none 0 0, Value.slice none 0 0, Value.map none, Value.map none, Value.map none] 49)).alloc (Obj.cells #[Value.pointer none, Value.pointer (some { block := w.heap.size, off := 0 })] 28) := ⟨_, rfl⟩
  have hB1 : Below w.heap.size w W1 := by subst hW1; exact ((Below.refl _ _).alloc (Nat.le_refl _) _).alloc (by simp) _
  have c0 : W1.cell? ⟨w.heap.size + 1, 0, none⟩ = some (.pointer none) := by subst hW1; go_simp
  have c1 : W1.cell? ⟨w.heap.size + 1, 1, none⟩ = some (.pointer (some ⟨w.heap.size, 0, none⟩)) := by subst hW1; go_simp
  have c2 : W1.cell? ⟨w.heap.size, 7, none⟩ = some (.map none) := by subst hW1; go_simp
  rw [← hW1]
  have HB1 := Lib.hid hB1
  clear hW1 hB1
  go_loopw [11] (fun i wr => ∃ k : Nat, k ≤ 2 ∧ i = .int .i64 k ∧ Hid (Below W1.heap.size W1 wr)) (fun i _ => 2 - (intOf i).toNat)
  case atStart => exact ⟨0, by omega, rfl, Below.refl _ _⟩
  case round =>
    obtain ⟨k, hk, rfl, HB⟩ := hrel
    have HBr := Lib.hid (HB1.out.trans (HB.out.mono HB1.out.size))
    by_cases h2 : 2 ≤ k
    · clear c0 c1 c2 HB
      go_wp2_with fail
      refine (HA.out wr HBr.out).mono ?_
      rintro e w9 ⟨rfl, hb9⟩
      have HB9 := Lib.hid (HBr.out.trans (hb9.mono HBr.out.size))
      clear hb9 HBr
      go_wp2_with fail
      go_ret
      exact ⟨rfl, HB9.out⟩
    · have hx : ∃ p, wr.cell? ⟨w.heap.size + 1, k, none⟩ = some (.pointer p) ∧ TbNone wr p := by
        rcases (by omega : k = 0 ∨ k = 1) with rfl | rfl
        · exact ⟨_, cell_later HB.out c0, .inl rfl⟩
        · exact ⟨_, cell_later HB.out c1, .inr ⟨_, rfl, cell_later HB.out c2⟩⟩
      obtain ⟨p, hp, hn⟩ := hx
      have hlt : k < 2 := by omega
      have HN := Lib.hid hn
      have HIt := Lib.hid (items_noneN hn (HX.out.below HBr.out) HXw.out hxl)
      clear c0 c1 c2 h2 hn
      go_wp2_with fail
      refine HIt.out.mono ?_
      rintro e w3 ⟨v3, rfl, hv3, hb3⟩
      obtain ⟨A3, c3, rfl⟩ := own_slice hv3
      replace HN := Lib.hid (HN.out.below hb3)
      replace HB := Lib.hid (HB.out.trans (hb3.mono HB.out.size))
      replace HBr := Lib.hid (HBr.out.trans (hb3.mono HBr.out.size))
      have HRt := Lib.hid (runes_noneN HN.out (HZ.out.below HBr.out) HZw.out hzl)
      clear hv3 hb3 HIt
      go_wp2_with fail
      refine HRt.out.mono ?_
      rintro e w4 ⟨v4, rfl, hv4, hb4⟩
      obtain ⟨A4, c4, rfl⟩ := own_slice hv4
      replace HN := Lib.hid (HN.out.below hb4)
      replace HB := Lib.hid (HB.out.trans (hb4.mono HB.out.size))
      clear hv4 hb4 HRt HBr
      go_wp2_with fail
      refine (is_noneN _ _ HN.out _).mono ?_
      rintro e w5 ⟨rfl, rfl⟩
      clear HN
      go_wp2_with fail
      go_roundw
      case rel => exact ⟨k + 1, by omega, by go_num, HB⟩
      case measure => simp [intOf]; omega
end Go.Proofs.YthoegenipbohmaaGreatDoor
