/- props.load. -/
import Derived.Test.YtmdkjljcnegmeaaDoorLoadA
import Derived.Test.YtmdkjljcnegmeaaDoorFill3W
namespace Go.Proofs.YtmdkjljcnegmeaaDoor
open Go.RowKit
set_option linter.unusedVariables false
set_option linter.unusedSimpArgs false

theorem slEntry : SlT Tryd.prog 79 82 3 24 := ⟨Tryd.underlying79, by kernel_rfl, by decide, by decide⟩
theorem own_blk_ne {w : World} {base n p : Nat} {e t : TypeId} {size : Nat} {v : Value} {xs : List Value} {cs : Array Value} (h : w.ownsRow base e size v n xs) (hp : Blk w p t cs) (hne : e ≠ t) : some p ≠ v.ownBlock := by
  rcases h.2 with ⟨rfl, _⟩ | ⟨g', cap', cur, rfl, _⟩
  · simp [Value.ownBlock]
  · have := row_blk_ne h hp hne
    simp only [Value.ownBlock, ne_eq, Option.some.injEq]
    exact fun hh => this hh.symm
structure LoadSt (w : World) (B : Nat) (v8 v9 v10 : Value) (es : List Ent) (vs : List Sp.Str) (gs : List Rg) : Prop where
  es : w.ownsRow B 82 3 v8 es.length (entCells es)
  vs : w.ownsRow B 9 1 v9 vs.length (strVs vs)
  gs : RgsAt w B v10 gs
section
variable {w w' : World} {B : Nat} {v8 v9 v10 v' : Value} {es : List Ent} {vs : List Sp.Str} {gs : List Rg}
theorem LoadSt.below (h : LoadSt w B v8 v9 v10 es vs gs) (hb : Below w.heap.size w w') : LoadSt w' B v8 v9 v10 es vs gs := ⟨own_below h.es hb, own_below h.vs hb, own_below h.gs hb⟩
theorem LoadSt.addV (h : LoadSt w B v8 v9 v10 es vs gs) {f : Sp.Str} (ho : w'.ownsRow B 9 1 v' (vs.length + 1) (strVs vs ++ [.string (toB f)])) (hg : w.grownBy w' v9.ownBlock) : LoadSt w' B v8 v' v10 es (vs ++ [f]) gs :=
  ⟨h.es.kept hg (own_types h.es h.vs (by decide)), by unfold strVs; rw [List.map_append, List.length_append]; exact ho, World.ownsRow.kept h.gs hg (own_types h.gs h.vs (by decide))⟩
theorem LoadSt.addE (h : LoadSt w B v8 v9 v10 es vs gs) {e : Ent} (ho : w'.ownsRow B 82 3 v' (es.length + 1) (entCells es ++ [.int .i64 e.lo, .int .i64 e.hi, .int .i64 e.val])) (hg : w.grownBy w' v8.ownBlock) : LoadSt w' B v' v9 v10 (es ++ [e]) vs gs :=
  ⟨by unfold entCells; rw [List.flatMap_append, List.length_append]; exact ho, h.vs.kept hg (own_types h.vs h.es (by decide)), World.ownsRow.kept h.gs hg (own_types h.gs h.es (by decide))⟩
theorem LoadSt.addG (h : LoadSt w B v8 v9 v10 es vs gs) {r : Rg} (ho : w'.ownsRow B 43 2 v' (gs.length + 1) (gs.flatMap rgCells ++ [.int .i64 r.lo, .int .i64 r.hi])) (hg : w.grownBy w' v10.ownBlock) : LoadSt w' B v8 v9 v' es vs (gs ++ [r]) :=
  ⟨h.es.kept hg (own_types h.es h.gs (by decide)), h.vs.kept hg (own_types h.vs h.gs (by decide)), by unfold RgsAt; rw [rgs_snoc, List.length_append]; exact ho⟩
end
/-- A write below the base leaves what lies above it. -/
theorem own_above {w w' : World} {base : Nat} {e : TypeId} {size n : Nat} {v : Value} {xs : List Value} (h : w.ownsRow base e size v n xs) (ha : ∀ k, base ≤ k → k < w.heap.size → w'.heap[k]? = w.heap[k]?) : w'.ownsRow base e size v n xs := by
  refine ⟨h.1, ?_⟩
  rcases h.2 with h1 | ⟨g, cap, cur, he, hb, hg, h2⟩
  · exact .inl h1
  · exact .inr ⟨g, cap, cur, he, hb, (ha g hb (heap_lt hg)).trans hg, h2⟩
theorem TrieAt.above {w w' : World} {B p : Nat} {vals : List Sp.Str} {f : Int → Int} (h : TrieAt w B p vals f) (ha : ∀ k, B ≤ k → k < w.heap.size → w'.heap[k]? = w.heap[k]?) : TrieAt w' B p vals f := by
  obtain ⟨v0, m, v2, t, c, wm, h1, h2, h3⟩ := h
  exact ⟨v0, m, v2, t, c, wm, ⟨(ha p h1.bp (heap_lt h1.ptr)).trans h1.ptr, h1.bp, own_above h1.hv0 ha, h1.hm.block (ha m h1.bm h1.hm.lt), h1.hwm.block (ha wm h1.bwm h1.hwm.lt), own_above h1.h2 ha, h1.bm, h1.bwm, h1.ne, h1.cnt, h1.inv⟩, h2, h3⟩
theorem TrieAt.base {w : World} {B B' p : Nat} {vals : List Sp.Str} {f : Int → Int} (h : TrieAt w B p vals f) (hB : B' ≤ B) : TrieAt w B' p vals f := by
  obtain ⟨v0, m, v2, t, c, wm, h1, h2, h3⟩ := h
  exact ⟨v0, m, v2, t, c, wm, ⟨h1.ptr, Nat.le_trans hB h1.bp, own_base h1.hv0 hB, h1.hm, h1.hwm, own_base h1.h2 hB, Nat.le_trans hB h1.bm, Nat.le_trans hB h1.bwm, h1.ne, h1.cnt, h1.inv⟩, h2, h3⟩
theorem set_above (w : World) (b j : Nat) (u : Value) {base : Nat} (hb : b < base) : ∀ k, base ≤ k → k < w.heap.size → (w.setCell ⟨b, j, none⟩ u).heap[k]? = w.heap[k]? := fun k hk _ => Below.heap_setCell w ⟨b, j, none⟩ u k (by show k ≠ b; omega)
theorem below_row' {B : Nat} {w w' : World} (hb : Below B w w') {b : Nat} {t : TypeId} {cs : Array Value} (h : Blk w b t cs) (hB : b < B) : Blk w' b t cs := (hb.block b hB).trans h
def LoadSaid (rs : List Rec) (w : World) (e : Ending) (w' : World) : Prop :=
  ∃ p vv kv s, e = .returned (.tuple #[.agg #[.pointer (some ⟨p, 0, none⟩)], vv, kv]) ∧ TrieAt w' w.heap.size p (valsOf rs) (entCur (entsOf rs).reverse) ∧ w'.ownsRow w.heap.size 9 1 vv (valsOf rs).length (strVs (valsOf rs)) ∧
    s.Perm (clipped (rgsOf rs)) ∧ s.Pairwise (fun a b => a.lo ≤ b.lo) ∧ RgsAt w' w.heap.size kv (joinAll s) ∧ Below w.heap.size w w'
set_option maxRecDepth 100000 in
set_option maxHeartbeats 800000 in
theorem load_walk (t : ByteArray) (rs : List Rec) (w : World) (hE : Env w) (hp : ∀ w, Env w → Calls Tryd.prog 26 #[.string t] w (ParseSaid rs w)) (hok : ∀ r ∈ rs, RecOk r) (h0 : 0 < rs.length) (hl : rs.length ≤ 500000) :
    Calls Tryd.prog 20 #[.string t] w (LoadSaid rs w) := by
  have Hok := Lib.hid hok
  have hw0 : Blk (w.alloc (Obj.cells #[Value.pointer none] 33)) w.heap.size 33 #[Value.pointer none] := row_new _ _
  have hb0 := alloc_below w (Obj.cells #[Value.pointer none] 33)
  have HP := Lib.hid (hp _ (hE.below hb0))
  clear hok hp hE
  go_enter Tryd.func20, Tryd.ntmps20
  go_wp2_with fail
  refine HP.out.mono ?_
  rintro e w1 ⟨vl, fv, rfl, hR, hb1⟩
  rw [size_new] at hR
  have hB1 := hb0.trans (hb1.mono (by rw [size_new]; omega))
  have hw1 := hw0.below hb1
  have hsz1 : w.heap.size + 1 ≤ w1.heap.size := by have := hb1.size; rw [size_new] at this; exact this
  have HR := Lib.hid hR
  obtain ⟨gl, cl, rfl, hgl1, hgl2, hgl3, hgl4⟩ := own_form hR.row h0
  clear hw0 hb0 HP hb1 hR
  go_wp2_with fail
  go_loopw [8, 9, 10, 22] (fun v8 v9 v10 i wr => ∃ k : Nat, k ≤ rs.length ∧ i = .int .i64 k ∧ Hid (LoadSt wr w1.heap.size v8 v9 v10 (entsOf (rs.take k)) (valsOf (rs.take k)) (rgsOf (rs.take k))) ∧ Hid (Below w1.heap.size w1 wr)) (fun _ _ _ i _ => rs.length - (intOf i).toNat)
  case atStart => exact ⟨0, by omega, rfl, ⟨World.ownsRow_nil _ _ _ _, World.ownsRow_nil _ _ _ _, World.ownsRow_nil _ _ _ _⟩, Below.refl _ _⟩
  case round =>
    obtain ⟨k, hk, rfl, HL, HB⟩ := hrel
    by_cases hlt : k < rs.length
    · have hRr := HR.out.below HB.out
      obtain ⟨u, hu⟩ : ∃ u, u = fv[k]'(by rw [← HR.out.len]; exact hlt) := ⟨_, rfl⟩
      obtain ⟨r, hr⟩ : ∃ r, r = rs[k] := ⟨_, rfl⟩
      obtain ⟨g0, g1, g2⟩ := recCells_get rs fv k HR.out.len hlt
      rw [← hr] at g0 g1
      rw [← hu] at g2
      have c0 := own_cell hRr.row _ _ g0
      have c1 := own_cell hRr.row _ _ g1
      have c2 := own_cell hRr.row _ _ g2
      have hfld := hRr.fld k r u (by rw [hr]; exact List.getElem?_eq_getElem hlt) (by rw [hu]; exact List.getElem?_eq_getElem _)
      have hrok : RecOk r := by rw [hr]; exact Hok.out _ (List.getElem_mem _)
      obtain ⟨f0, fs, hfs⟩ : ∃ f0 fs, r.fields = f0 :: fs := by
        obtain ⟨_, _, h3⟩ := hrok
        cases hf : r.fields with
        | nil => exact absurd hf h3
        | cons a b => exact ⟨a, b, rfl⟩
      have hf0 : fld0 r = f0 := by unfold fld0; rw [hfs]; rfl
      rw [hfs] at hfld
      obtain ⟨gf, cf, rfl, hgf1, hgf2, hgf3, hgf4⟩ := own_form hfld (by simp)
      have cf0 : wr.cell? ⟨gf, 0, none⟩ = some (.string (toB f0)) := own_cell hfld 0 _ rfl
      have htk : rs.take (k + 1) = rs.take k ++ [r] := by rw [List.take_succ_eq_append_getElem hlt, hr]
      have hln : (rs.take k).length = k := by rw [List.length_take]; omega
      have hvl := valsOf_len (rs.take k)
      have hel := entsOf_len (rs.take k)
      have hgl := rgsOf_len (rs.take k)
      have hes := entsOf_snoc (rs.take k) r
      have hvs := valsOf_snoc (rs.take k) r
      have hgs := rgsOf_snoc (rs.take k) r
      rw [hvs, hf0] at hes
      rw [hf0] at hvs
      rw [← htk] at hes hvs hgs
      rw [hln] at hvl hel hgl
      have Hes0 := Lib.hid hes
      have Hvs0 := Lib.hid hvs
      have Hgs := Lib.hid hgs
      generalize valsOf (rs.take k) = vals at *
      generalize entsOf (rs.take k) = es at *
      generalize rgsOf (rs.take k) = gs at *
      have hbe : (es.length + 1) * 24 ≤ 140737488355328 := by omega
      have hbg : (gs.length + 1) * 16 ≤ 140737488355328 := by omega
      have hbv : (vals.length + 1) * 16 ≤ 140737488355328 := by omega
      have hvl2 : vals.length ≤ 1000000 := by omega
      have hnf : (f0 :: fs).length = fs.length + 1 := rfl
      rw [hnf] at *
      clear hes hvs hgs hel hgl hvl hln htk g0 g1 g2 hr hu hfld hRr hrok hf0 hfs
      go_wp2_with fail
      obtain ⟨W2, hW2⟩ : ∃ W2, W2 = wr.alloc (Obj.cells #[Value.int IntKind.i64 r.lo, Value.int IntKind.i64 r.hi, Value.slice (some ⟨gf, 0, none⟩) (fs.length + 1) cf] 58) := ⟨_, rfl⟩
      have hbw := alloc_below wr (Obj.cells #[Value.int IntKind.i64 r.lo, Value.int IntKind.i64 r.hi, Value.slice (some ⟨gf, 0, none⟩) (fs.length + 1) cf] 58)
      rw [← hW2] at hbw ⊢
      have Hk2 : Hid (Blk W2 wr.heap.size 58 #[Value.int IntKind.i64 r.lo, Value.int IntKind.i64 r.hi, Value.slice (some ⟨gf, 0, none⟩) (fs.length + 1) cf]) := by show Blk _ _ _ _; rw [hW2]; exact row_new _ _
      have HL2 := Lib.hid (HL.out.below hbw)
      have HB2 := Lib.hid (HB.out.trans (hbw.mono HB.out.size))
      have q20 : W2.cell? ⟨wr.heap.size, 0, none⟩ = some (.int .i64 r.lo) := Hk2.out.cell 0
      have q21 : W2.cell? ⟨wr.heap.size, 1, none⟩ = some (.int .i64 r.hi) := Hk2.out.cell 1
      have q22 : W2.cell? ⟨wr.heap.size, 2, none⟩ = some (.slice (some ⟨gf, 0, none⟩) (fs.length + 1) cf) := Hk2.out.cell 2
      have qf : W2.cell? ⟨gf, 0, none⟩ = some (.string (toB f0)) := (hbw.cell (p := ⟨_, _, _⟩) hgf2).trans cf0
      clear hW2 hbw HL HB c0 c1 c2 cf0
      refine (index_walk HL2.out.vs hvl2 f0).mono ?_
      rintro e w3 ⟨rfl, rfl⟩
      by_cases hm : f0 ∈ vals
      · have Hvs := Lib.hid (show valsOf (rs.take (k + 1)) = vals by rw [Hvs0.out, addVal, if_pos hm])
        have Hes := Hes0
        rw [addVal, if_pos hm] at Hes
        rw [if_pos hm]
        have hlt0 : ((vals.idxOf f0 : Nat) : Int) ≥ 0 := by omega
        clear Hes0 Hvs0 hm
        generalize vals.idxOf f0 = ix at *
        have d0 : decide ((ix : Int) < 0) = false := by simp
        go_wp2_with (first | (at_builtin; refine wp_append_new slEntry rfl (.tmp 43) (.tmp 50) rfl w1.heap.size u8 _ _ rfl (by exact HL2.out.es) #[.int .i64 r.lo, .int .i64 r.hi, .int .i64 ix] rfl rfl (by simp [Value.oneCell']) (by exact hbe) (by exact HB2.out.size) ?_; intro v8' w6 hown6 hg6; have HL6 := Lib.hid (HL2.out.addE (e := ⟨r.lo, r.hi, ix⟩) hown6 hg6); have Hk6 := Lib.hid (Hk2.out.grown hg6 (own_blk_ne HL2.out.es Hk2.out (by decide))); have HB6 := Lib.hid (HB2.out.grown hg6 HB2.out.size (fun k hk => (own_lt HL2.out.es k hk).1)); have q60 := Hk6.out.cell 0; have q61 := Hk6.out.cell 1; simp only [List.getElem?_toArray, List.getElem?_cons_zero, List.getElem?_cons_succ] at q60 q61; clear hown6 hg6) | (at_builtin; refine wp_append_new slRange rfl (.tmp 52) (.tmp 58) rfl w1.heap.size u10 _ _ rfl (by exact HL6.out.gs) #[.int .i64 r.lo, .int .i64 r.hi] rfl rfl (by simp [Value.oneCell']) (by exact hbg) (by exact HB6.out.size) ?_; intro v10' w7 hown7 hg7; have HL7 := Lib.hid (HL6.out.addG (r := ⟨r.lo, r.hi⟩) hown7 hg7); have HB7 := Lib.hid (HB6.out.grown hg7 HB6.out.size (fun k hk => (own_lt HL6.out.gs k hk).1)); clear hown7 hg7))
        go_roundw
        case rel => exact ⟨k + 1, by omega, by go_num, by
          show LoadSt _ _ _ _ _ _ _ _
          rw [Hes.out, Hvs.out, Hgs.out]
          exact HL7.out, HB7.out⟩
        case measure => simp [intOf]; omega
      · have Hvs := Lib.hid (show valsOf (rs.take (k + 1)) = vals ++ [f0] by rw [Hvs0.out, addVal, if_neg hm])
        have Hes := Hes0
        rw [addVal, if_neg hm, List.idxOf_append, if_neg hm] at Hes
        simp only [List.idxOf_cons_self, Nat.add_zero, Nat.zero_add] at Hes
        rw [if_neg hm]
        obtain ⟨A9, c9, rfl⟩ := own_slice HL2.out.vs
        clear Hes0 Hvs0 hm
        go_wp2_with (first | (at_builtin; refine wp_append_new slStr rfl (.tmp 36) (.tmp 41) rfl w1.heap.size (.slice A9 _ c9) _ _ rfl (by exact HL2.out.vs) #[.string (toB f0)] rfl rfl (by simp [Value.oneCell']) (by exact hbv) (by exact HB2.out.size) ?_; intro v9' w5 hown5 hg5; have HL5 := Lib.hid (HL2.out.addV hown5 hg5); have Hk5 := Lib.hid (Hk2.out.grown hg5 (own_blk_ne HL2.out.vs Hk2.out (by decide))); have HB5 := Lib.hid (HB2.out.grown hg5 HB2.out.size (fun k hk => (own_lt HL2.out.vs k hk).1)); have q50 := Hk5.out.cell 0; have q51 := Hk5.out.cell 1; simp only [List.getElem?_toArray, List.getElem?_cons_zero, List.getElem?_cons_succ] at q50 q51; clear hown5 hg5) | (at_builtin; refine wp_append_new slEntry rfl (.tmp 43) (.tmp 50) rfl w1.heap.size u8 _ _ rfl (by exact HL5.out.es) #[.int .i64 r.lo, .int .i64 r.hi, .int .i64 vals.length] rfl rfl (by simp [Value.oneCell']) (by exact hbe) (by exact HB5.out.size) ?_; intro v8' w6 hown6 hg6; have HL6 := Lib.hid (HL5.out.addE (e := ⟨r.lo, r.hi, vals.length⟩) hown6 hg6); have Hk6 := Lib.hid (Hk5.out.grown hg6 (own_blk_ne HL5.out.es Hk5.out (by decide))); have HB6 := Lib.hid (HB5.out.grown hg6 HB5.out.size (fun k hk => (own_lt HL5.out.es k hk).1)); have q60 := Hk6.out.cell 0; have q61 := Hk6.out.cell 1; simp only [List.getElem?_toArray, List.getElem?_cons_zero, List.getElem?_cons_succ] at q60 q61; clear hown6 hg6) | (at_builtin; refine wp_append_new slRange rfl (.tmp 52) (.tmp 58) rfl w1.heap.size u10 _ _ rfl (by exact HL6.out.gs) #[.int .i64 r.lo, .int .i64 r.hi] rfl rfl (by simp [Value.oneCell']) (by exact hbg) (by exact HB6.out.size) ?_; intro v10' w7 hown7 hg7; have HL7 := Lib.hid (HL6.out.addG (r := ⟨r.lo, r.hi⟩) hown7 hg7); have HB7 := Lib.hid (HB6.out.grown hg7 HB6.out.size (fun k hk => (own_lt HL6.out.gs k hk).1)); clear hown7 hg7))
        go_roundw
        case rel => exact ⟨k + 1, by omega, by go_num, by
          show LoadSt _ _ _ _ _ _ _ _
          rw [Hes.out, Hvs.out, Hgs.out]
          exact HL7.out, HB7.out⟩
        case measure => simp [intOf]; omega
    · obtain rfl : k = rs.length := by omega
      have HL0 := HL
      rw [List.take_length] at HL0
      have hvl := valsOf_len rs
      have hel := entsOf_len rs
      have hgl := rgsOf_len rs
      have hv0 : 0 < (valsOf rs).length := by
        obtain ⟨r, rs', rfl⟩ := List.exists_cons_of_length_pos h0
        have := foldl_vals_le rs' (addVal [] (fld0 r))
        have h2 := List.length_pos_of_mem (addVal_mem [] (fld0 r))
        have e : valsOf (r :: rs') = rs'.foldl (fun vs r => addVal vs (fld0 r)) (addVal [] (fld0 r)) := rfl
        rw [e]
        omega
      have hok2 := entsOf_ok rs Hok.out
      have hok3 : ∀ e ∈ (entsOf rs).reverse, 0 ≤ e.lo ∧ e.lo ≤ e.hi ∧ e.hi ≤ 1114111 ∧ 0 ≤ e.val ∧ e.val < (valsOf rs).length := fun e he => hok2 e (List.mem_reverse.1 he)
      have Hok3 := Lib.hid hok3
      obtain ⟨g8, c8, rfl, hg81, hg82, _, _⟩ := own_form HL0.out.es (by omega)
      obtain ⟨g9, c9, rfl, hg91, hg92, _, _⟩ := own_form HL0.out.vs hv0
      obtain ⟨A10, c10, rfl⟩ := own_slice HL0.out.gs
      have hrw := reverse_walk HL0.out.es (by omega)
      have HRW := Lib.hid hrw
      have Hel := Lib.hid hel
      have Hgl := Lib.hid hgl
      have Hvl := Lib.hid hvl
      have Hv0 := Lib.hid hv0
      clear hok2 hok3 hrw HL hel hgl hvl hv0
      go_wp2_with fail
      refine HRW.out.mono ?_
      rintro e w2 ⟨rfl, hes, hg2⟩
      have hvs2 := HL0.out.vs.kept hg2 (own_types HL0.out.vs HL0.out.es (by decide))
      have hgs2 : RgsAt w2 w1.heap.size _ (rgsOf rs) := World.ownsRow.kept HL0.out.gs hg2 (own_types HL0.out.gs HL0.out.es (by decide))
      have HB2 := Lib.hid (HB.out.grown hg2 HB.out.size (fun k hk => (own_lt HL0.out.es k hk).1))
      have HB2s := Lib.hid HB2.out.size
      have hbw := build_walk (entsOf rs).reverse (valsOf rs) w1.heap.size g8 c8 w1.heap.size g9 c9 w2 (by rw [List.length_reverse]; exact hes) hvs2 (by have := Hel.out; rw [List.length_reverse]; omega) (by have := Hvl.out; omega) Hv0.out Hok3.out
      rw [List.length_reverse] at hbw
      have HBW := Lib.hid hbw
      have Hvs2 := Lib.hid hvs2
      have Hgs2 := Lib.hid hgs2
      clear hes hg2 hvs2 hgs2 hbw HRW HL0 HB
      go_wp2_with fail
      refine HBW.out.mono ?_
      rintro e w4 ⟨p, rfl, hT, hb4⟩
      have hgs4 := own_below Hgs2.out hb4
      have hmk := make_walk (rgsOf rs) w1.heap.size _ w4 hgs4 (by have := Hgl.out; omega)
      have HMK := Lib.hid hmk
      have HB4 := Lib.hid (HB2.out.trans (hb4.mono HB2.out.size))
      have Hvs4 := Lib.hid (own_below Hvs2.out hb4)
      have HT := Lib.hid hT
      clear hgs4 hmk hb4 HBW Hvs2 Hgs2 HB2 hT
      go_wp2_with fail
      refine HMK.out.mono ?_
      rintro e w5 ⟨kv, s, rfl, hperm, hsort, hkv, hb5⟩
      have HB5 := HB4.out.trans (hb5.mono HB4.out.size)
      have hT5 := HT.out.below hb5
      have hvs5 := own_below Hvs4.out hb5
      have hc5 : w5.cell? ⟨w.heap.size, 0, none⟩ = some (.pointer none) := (HB5.cell (p := ⟨_, _, _⟩) (by show w.heap.size < _; omega)).trans (hw1.cell 0)
      have hf5 : w5.frozen? ⟨w.heap.size, 0, none⟩ = false := (HB5.frozen (p := ⟨_, _, _⟩) (by show w.heap.size < _; omega)).trans (hw1.free 0)
      have hs2 : w1.heap.size ≤ w2.heap.size := HB2s.out
      have hs4 : w1.heap.size ≤ w4.heap.size := HB4.out.size
      have hfin : ∀ W, W = w5.setCell ⟨w.heap.size, 0, none⟩ (.pointer (some ⟨p, 0, none⟩)) → LoadSaid rs w (.returned (.tuple #[.agg #[.pointer (some ⟨p, 0, none⟩)], .slice (some ⟨g9, 0, none⟩) (valsOf rs).length c9, kv])) W := by
        rintro W rfl
        refine ⟨p, _, kv, s, rfl, (hT5.above (set_above w5 _ _ _ (by omega))).base (by omega), own_base (own_above hvs5 (set_above w5 _ _ _ (by omega))) (by omega), hperm, hsort, own_base (own_above hkv (set_above w5 _ _ _ (by omega))) (by omega), (hB1.trans (HB5.mono (by omega))).setCell (p := ⟨_, _, _⟩) (Nat.le_refl _) _⟩
      have Hfin := Lib.hid hfin
      have hc6 : (w5.setCell ⟨w.heap.size, 0, none⟩ (.pointer (some ⟨p, 0, none⟩))).cell? ⟨w.heap.size, 0, none⟩ = some (.pointer (some ⟨p, 0, none⟩)) := by
        have hb5 : Blk w5 w.heap.size 33 #[Value.pointer none] := below_row' HB5 hw1 (by omega)
        rw [(hb5.set 0 _).cell 0]
        rfl
      generalize (valsOf rs).length = nv at *
      generalize (entsOf rs).length = ne at *
      generalize (rgsOf rs).length = ng at *
      clear hT5 hvs5 hperm hsort hkv hb5 HB5 hfin Hvs4 HT HMK HB4 Hel Hgl Hvl Hv0 Hok3 hw1 hB1 HR
      go_wp2_with fail
      exact bodyPost_ret (v := .tuple #[.agg #[.pointer (some ⟨p, 0, none⟩)], .slice (some ⟨g9, 0, none⟩) nv c9, kv]) (by simp [results, Tryd.results20, go_sem, hc6]) rfl (Hfin.out _ rfl)
end Go.Proofs.YtmdkjljcnegmeaaDoor
