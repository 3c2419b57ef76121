/- fold.Closure. -/
import Derived.Test.YtmdkjljcnegmeaaDoorCloA
namespace Go.Proofs.YtmdkjljcnegmeaaDoor
open Go.RowKit Go.Maps
set_option linter.unusedVariables false
set_option linter.unusedSimpArgs false

theorem RListAt.cells {w : World} {ad : Addr} {n c : Nat} {rs : List Rg} (h : RListAt w (.slice (some ad) n c) rs) : ∀ j u, (rs.flatMap rgCells)[j]? = some u → w.cell? (ad.add j) = some u := by
  obtain ⟨A, c', e, _, h3⟩ := h
  injection e with e1 e2 e3
  subst e1
  intro j u hu
  have hlen : (rs.flatMap rgCells).length = rs.length * 2 := flat_len rgCells 2 (fun _ => rfl) rs
  have hj : j < rs.length * 2 := by rw [← hlen]; exact (List.getElem?_eq_some_iff.1 hu).1
  obtain ⟨ad', h4, h5⟩ := h3 (by omega)
  injection h4 with h4
  subst h4
  obtain ⟨g1, g2⟩ := rg_get rs (j / 2) (by omega)
  obtain ⟨q1, q2⟩ := h5 (j / 2) (by omega)
  rcases (by omega : j = j / 2 * 2 ∨ j = j / 2 * 2 + 1) with e | e
  · rw [e] at hu ⊢
    rw [g1] at hu
    rw [← hu]
    exact q1
  · rw [e] at hu ⊢
    rw [g2] at hu
    rw [← hu, ← Addr.add_add]
    exact q2
theorem Ranging.own_ne {κ : Type} {P : Program} {k : TypeId} {K : KK P k κ} {w : World} {b r n cnt base m size : Nat} {f : κ → Option Value} {left : κ → Bool} {e : TypeId} {v : Value} {xs : List Value} (h : Ranging w K b r n f left cnt) (ho : w.ownsRow base e size v m xs) : (v.ownBlock = none ∨ v.ownBlock ≠ some r) ∧ some r ≠ v.ownBlock ∧ some b ≠ v.ownBlock := by
  obtain ⟨D, l, ⟨es, clock, since, seen, c0, hb, _, _, _, hr, _⟩, _, _⟩ := h
  rcases ho.2 with ⟨rfl, _⟩ | ⟨g, cap, cur, rfl, _, hg, _⟩
  · exact ⟨.inl rfl, by simp [Value.ownBlock], by simp [Value.ownBlock]⟩
  · have h1 : g ≠ r := by
      rintro rfl
      rw [hr] at hg
      cases hg
    have h2 : g ≠ b := by
      rintro rfl
      rw [hb] at hg
      cases hg
    exact ⟨.inr (by simpa [Value.ownBlock] using h1), by simpa [Value.ownBlock] using Ne.symm h1, by simpa [Value.ownBlock] using Ne.symm h2⟩
theorem lookT {w : World} {hb n : Nat} {T : Int → Prop} (h : MapF w (kInt : KK Tryd.prog 3 Int) hb n (hitF T)) (x : Int) (hx : (Lit.int .i64 x).wf = true) : ∃ tb : Bool, (Instr.lookup 67 (.map (some hb)) (.int .i64 x) false).run Tryd.prog w = .ok (.bool tb) w ∧ (tb = true ↔ T x) := by
  have hz : (zeroValue 4).run Tryd.prog w = .ok (.bool false) w := Tryd.zeroValue4 w
  have hl : (Instr.lookup 67 (.map (some hb)) (.int .i64 x) false).run Tryd.prog w = .ok ((hitF T x).getD (.bool false)) w := h.look false (t := 67) (e := 4) Tryd.underlying67 hz x hx
  by_cases hT : T x
  · refine ⟨true, ?_, by simp [hT]⟩
    have e : hitF T x = some (.bool true) := by unfold hitF; rw [if_pos hT]
    rw [e] at hl
    simpa using hl
  · refine ⟨false, ?_, by simp [hT]⟩
    have e : hitF T x = none := by unfold hitF; rw [if_neg hT]
    rw [e] at hl
    simpa using hl
def allHits (Φ : Files) (rs : List Rg) (k : Int) : Prop := ∃ p : PK, pairsIn Φ Φ.fol p.1 ∧ hasB rs p.1.1 = true ∧ p.1.2 = k
def ClosureSaid (Φ : Files) (rs : List Rg) (w : World) (e : Ending) (w' : World) : Prop :=
  ∃ v M s, e = .returned v ∧ s.Perm (clipped (rs ++ M)) ∧ s.Pairwise (fun a b => a.lo ≤ b.lo) ∧ RgsAt w' w.heap.size v (joinAll s) ∧ (∀ x, x ∈ M ↔ ∃ p : PK, pairsIn Φ Φ.fol p.1 ∧ allHits Φ rs p.1.2 ∧ x = ⟨p.1.1, p.1.1⟩) ∧ Below w.heap.size w w'
set_option maxRecDepth 100000 in
set_option maxHeartbeats 3200000 in
theorem closure_walk {w : World} {m : Nat} {Φ : Files} {rs : List Rg} {v : Value} (ht : TabAt w m Φ) (hok : FilesOk Φ) (htx : TextIs 29 Φ.fol) (hE : Env w) (hwd : widthOf Φ.fol ≤ 100000) (hsw : ∀ r : Int, (Lit.int .i64 r).wf = true → (Lit.int .i64 (simpleOf Φ r)).wf = true)
    (hl : RListAt w v rs) (hpos : 0 < rs.length) (hrl : rs.length ≤ 500000) :
    Calls Tryd.prog 15 #[.pointer (some ⟨m + 3, 0, none⟩), v] w (ClosureSaid Φ rs w) := by
  have hto := to_walk ht hok 0 (by decide) false
  simp only [Bool.false_eq_true, if_false] at hto
  obtain ⟨n0, l0, e0⟩ := foldz_cons hok false 0
  rw [e0] at hto
  have HTO := Lib.hid hto
  have HPR := Lib.hid (fun (W : World) (hb : Below w.heap.size w W) => pairs_walk (ht.below hb) hok htx (hE.below hb) hwd hsw)
  have HL := Lib.hid hl
  obtain ⟨A, c, rfl, hn, hz⟩ := hl
  obtain ⟨ad, rfl, hz2⟩ := hz hpos
  have hmm := @run_makeMap Tryd.prog
  clear hto ht hok htx hE hsw hz e0 hz2
  go_enter Tryd.func15, Tryd.ntmps15
  go_wp2_with fail
  refine HTO.out.mono ?_
  rintro e w1 ⟨v1, rfl, hv1, hb1⟩
  obtain ⟨A1, c1, rfl⟩ := own_slice hv1
  have d0 : ((((n0 :: l0).length : Nat) : Int) == 0) = false := by rw [beq_eq_false_iff_ne]; simp; omega
  generalize (n0 :: l0).length = nl at *
  have HB1 := Lib.hid hb1
  clear hv1 hb1 HTO
  go_wp2_with fail
  refine (HPR.out w1 HB1.out).mono ?_
  rintro e w2 ⟨mb, n, rfl, hmb, hn2, hm2, hb2⟩
  have HM2 := Lib.hid hm2
  have HB2 := Lib.hid (HB1.out.trans (hb2.mono HB1.out.size))
  have hn3 : n ≤ 200000 := by omega
  have hwmb : w.heap.size ≤ mb := Nat.le_trans HB1.out.size hmb
  clear hm2 hb2 HPR HB1 hmb
  have hbH := alloc_below w2 (.map #[] 0)
  have hmH := MapF.made w2 kInt
  have hsH := size_new w2 (.map #[] 0)
  have hM3 := HM2.out.below hbH HM2.out.lt
  generalize hSS : pairsIn Φ Φ.fol = S at *
  go_wp2_with (at_range; refine wp_rangeF _ rfl (.tmp 17) 65 rfl kPair Tryd.underlying65 mb n _ rfl (by exact HM2.out.below hbH HM2.out.lt) ?_; intro w3 cnt0 hrg3 hg3 hs3; generalize hW3 : w2.alloc (Obj.map #[] 0) = W3 at *; have HRg3 := Lib.hid hrg3; have HG3 := Lib.hid hg3; clear hrg3 hg3 hW3)
  go_frame
  clear hmm
  generalize hhb : w2.heap.size = hb at *
  generalize hrr : W3.heap.size = rr at *
  subst hsH
  have HH3 := Lib.hid (hmH.kept HG3.out (by simp))
  have HB3 := Lib.hid ((HB2.out.trans (hbH.mono (by have := HB2.out.size; omega))).trans (Below.grown (Below.refl _ _) HG3.out (by have := HB2.out.size; omega) (fun k hk => by cases hk)))
  have hmbl := HM2.out.lt
  have HMp3 := Lib.hid (hM3.kept HG3.out (by simp))
  clear hM3
  have hrange : Hid (Ranging w3 kPair mb (hb + 1) n (inF S) (fun x => (inF S x).isSome) cnt0) := HRg3
  clear hmH HRg3 HG3 hbH HM2 HB2
  go_loopw [19] (fun _ wr => ∃ (left : PK → Bool) (cnt n1 : Nat), Hid (Ranging wr kPair mb (hb + 1) n (inF S) left cnt) ∧ Hid (MapF wr kInt hb n1 (hitF (hitT S rs left))) ∧ n1 + cnt ≤ n ∧ Hid (Below w.heap.size w wr) ∧ Hid (MapF wr kPair mb n (inF S))) (fun _ wr => wr.rangeLeft mb (hb + 1))
  case atStart =>
    refine ⟨_, cnt0, 0, hrange, ?_, by have := hrange.out.cnt_le; omega, HB3, HMp3⟩
    refine MapF.congr HH3.out fun x _ => ?_
    unfold hitF
    rw [if_neg]
    rintro ⟨p, h1, h2, _⟩
    have h2' : (inF S p).isSome = false := h2
    unfold inF at h2'
    rw [if_pos h1] at h2'
    cases h2'
  case round =>
    obtain ⟨left, cnt, n1, HRg, HH, hn1, HB, HMp⟩ := hrel
    clear HH3 hrange HMp3
    by_cases h0 : cnt = 0
    · have hhlt := HH.out.lt
      have hne1 : mb ≠ hb := by omega
      have hb0 := alloc_below wr (Obj.cells #[] 43)
      have hs0 := size_new wr (Obj.cells #[] 43)
      have hown0 := own_fresh0 wr 43 2
      have hcells := RListAt.cells ((HL.out.below HB.out).below hb0)
      have HH0 := Lib.hid (HH.out.below hb0 hhlt)
      have HM0 := Lib.hid (HMp.out.below hb0 HMp.out.lt)
      have hmlt := HMp.out.lt
      have HB0 := Lib.hid (HB.out.trans (hb0.mono HB.out.size))
      have hone : ∀ u ∈ rs.flatMap rgCells, u.oneCell' = true := by
        intro u hu
        obtain ⟨r, _, hr⟩ := List.mem_flatMap.1 hu
        simp [rgCells] at hr
        rcases hr with rfl | rfl <;> rfl
      have hfl2 : (rs.flatMap rgCells).length = rs.length * 2 := flat_len rgCells 2 (fun _ => rfl) rs
      have hby : (0 + rs.length) * 16 ≤ 140737488355328 := by omega
      have Hown0 := Lib.hid hown0
      have Hcells := Lib.hid hcells
      have Hone := Lib.hid hone
      have Hfl2 := Lib.hid hfl2
      have hwb : w.heap.size ≤ wr.heap.size := HB.out.size
      clear hown0 hcells hone hfl2 hb0 HH HMp HB
      go_wp2_with (first | (at_next; refine wp_nextF _ rfl (.tmp 18) rfl kPair mb (hb + 1) n _ _ _ rfl HRg.out ?_ (fun x v w' cnt' _ _ _ _ hlt => absurd hlt (by omega)); intro hc0 hl0; have HT0 := Lib.hid (fun k => (show hitT S rs left k ↔ ∃ p : PK, S p.1 ∧ hasB rs p.1.1 = true ∧ p.1.2 = k from ⟨fun ⟨p, q1, q2, q3, q4⟩ => ⟨p, q1, q3, q4⟩, fun ⟨p, q1, q3, q4⟩ => ⟨p, q1, hl0 p trivial, q3, q4⟩⟩)); clear hl0 hc0 HRg) | (at_builtin; refine wp_append _ slRange rfl (.tmp 30) (.tmp 31) rfl wr.heap.size (.slice (some ⟨wr.heap.size, 0, none⟩) 0 0) 0 [] rfl (by exact Hown0.out) ad rs.length c (rs.flatMap rgCells) rfl (by exact Hfl2.out) (by exact Hcells.out) (by exact Hone.out) (by exact hby) (by rw [hs0]; omega) ?_; intro v8 w8 hown8 hg8 _ _; have HO8 := Lib.hid hown8; have HG8 := Lib.hid hg8; clear hown8 hg8) | (at_range; refine wp_rangeF w8 rfl (.tmp 33) 65 rfl kPair Tryd.underlying65 mb n _ rfl (by exact HM0.out.kept HG8.out (by simp [Value.ownBlock]; omega)) ?_; intro w9 cnt9 hrg9 hg9 hs9; have HRg9 := Lib.hid hrg9; have HG9 := Lib.hid hg9; clear hrg9 hg9))
      go_frame
      have hT9 := HT0.out
      have hH0 := HH0.out
      generalize hitT S rs left = T at *
      have HT9 := Lib.hid hT9
      have hO8 : RgsAt w8 wr.heap.size v8 (rs ++ []) := by
        have := HO8.out
        rw [List.append_nil]
        simpa [RgsAt] using this
      have hv8b : ∀ g, (Value.slice (some ⟨wr.heap.size, 0, none⟩) 0 0).ownBlock = some g → g = wr.heap.size := fun g hg => by simpa [Value.ownBlock] using hg.symm
      have hH8 : MapF w8 kInt hb n1 (hitF T) := hH0.kept HG8.out (by simp [Value.ownBlock]; omega)
      have hB8 : Below w.heap.size w w8 := HB0.out.grown HG8.out HB0.out.size (fun k hk => by have := hv8b k hk; omega)
      have HO9 := Lib.hid (show RgsAt w9 wr.heap.size v8 (rs ++ []) from World.ownsRow.kept hO8 HG9.out (by cases v8.ownBlock <;> simp))
      have HH9 := Lib.hid (hH8.kept HG9.out (by simp))
      have HB9 := Lib.hid (hB8.grown HG9.out hB8.size (fun k hk => by cases hk))
      have hcn := HRg9.out.cnt_le
      have hbr : wr.heap.size < w8.heap.size := by have := HG8.out.size; omega
      have hsz9 : wr.heap.size ≤ w9.heap.size := by have := HG8.out.size; have := HG9.out.size; omega
      clear hT9 hH0 HT0 HH0 HO8 hO8 hv8b hH8 hB8 HG8 HG9 HM0 HB0 Hown0 Hcells Hone Hfl2
      generalize wr.heap.size = bb at *
      generalize w8.heap.size = r2 at *
      go_loopw [8, 35] (fun u8 _ wr2 => ∃ (left2 : PK → Bool) (cnt : Nat) (M : List Rg), Hid (Ranging wr2 kPair mb r2 n (inF S) left2 cnt) ∧ Hid (RgsAt wr2 bb u8 (rs ++ M)) ∧ Hid (∀ x, x ∈ M ↔ oneT S T left2 x) ∧ M.length + cnt ≤ n ∧ Hid (MapF wr2 kInt hb n1 (hitF T)) ∧ Hid (Below w.heap.size w wr2) ∧ bb ≤ wr2.heap.size) (fun _ _ wr2 => wr2.rangeLeft mb r2)
      case atStart =>
        refine ⟨_, cnt9, [], HRg9, HO9, ?_, by simpa using hcn, HH9, HB9, hsz9⟩
        intro x
        constructor
        · intro h; cases h
        · rintro ⟨p, q1, q2, _⟩
          have h2' : (inF S p).isSome = false := q2
          unfold inF at h2'
          rw [if_pos q1] at h2'
          cases h2'
      case round =>
        obtain ⟨left2, cnt2, M, HRg, HO, HMm, hMc, HH, HB, hbb⟩ := hrel
        clear HRg9 HO9 HH9 HB9
        by_cases h0 : cnt2 = 0
        · go_wp2_with (at_next; refine wp_nextF wr rfl (.tmp 34) rfl kPair mb r2 n _ _ _ rfl HRg.out ?_ (fun x v w' cnt' _ _ _ _ hlt => absurd hlt (by omega)); intro hc0 hl0; have HL0 := Lib.hid hl0; clear hl0 hc0 HRg)
          refine (make_walk (rs ++ M) bb u8 wr HO.out (by rw [List.length_append]; omega)).mono ?_
          rintro e w5 ⟨v5, s5, rfl, hperm, hsort, hr5, hb5⟩
          have hmem : ∀ x, x ∈ M ↔ ∃ p : PK, pairsIn Φ Φ.fol p.1 ∧ allHits Φ rs p.1.2 ∧ x = ⟨p.1.1, p.1.1⟩ := by
            intro x
            rw [HMm.out x]
            unfold oneT allHits
            rw [hSS]
            constructor
            · rintro ⟨p, q1, _, q3, q4⟩
              exact ⟨p, q1, (HT9.out _).1 q3, q4⟩
            · rintro ⟨p, q1, q3, q4⟩
              exact ⟨p, q1, HL0.out p trivial, (HT9.out _).2 q3, q4⟩
          have Hfin := Lib.hid (show ClosureSaid Φ rs w (.returned v5) w5 from ⟨v5, M, s5, rfl, hperm, hsort, own_base hr5 HB.out.size, hmem, HB.out.trans (hb5.mono HB.out.size)⟩)
          clear hperm hsort hr5 hb5 hmem HO HH HB
          go_wp2_with fail
          go_ret
          exact Hfin.out
        · have hby : ((rs ++ M).length + 1) * 16 ≤ 140737488355328 := by rw [List.length_append]; omega
          have hne2 : hb ≠ r2 := by omega
          have hms : Hid (wr.rangeLeft mb r2 = cnt2) := HRg.out.left_eq
          go_wp2_with (first | (at_builtin; refine wp_append_new slRange rfl (.tmp 43) (.tmp 49) rfl bb u8 _ _ rfl (by exact HO5.out) #[.int .i64 x.1.1, .int .i64 x.1.1] (by rw [size_new, hs4]; rfl) rfl (by simp [Value.oneCell']) (by exact hby) (by rw [size_new]; omega) ?_; intro v9' w7 hown7 hg7; have HO7 := Lib.hid hown7; have HG7 := Lib.hid hg7; clear hown7 hg7) | (at_next; refine wp_nextF wr rfl (.tmp 34) rfl kPair mb r2 n _ _ _ rfl HRg.out (fun h => absurd h h0) ?_; intro x v4 w4 cnt4 hok4 hleft4 hf4 hrg4 hlt4 hg4 hs4 hen4; have hen5 : (Instr.entry (.pointer (some ⟨r2, 0, none⟩))).run Tryd.prog w4 = .ok (.tuple #[.agg #[.int .i64 x.1.1, .int .i64 x.1.2], v4]) w4 := hen4; have hO4 : RgsAt w4 bb u8 (rs ++ M) := World.ownsRow.kept HO.out hg4 (HRg.out.own_ne HO.out).1; have hH4 : MapF w4 kInt hb n1 (hitF T) := HH.out.kept hg4 (by simpa using hne2); have hbw4 := alloc_below w4 (Obj.cells #[Value.int IntKind.i64 x.1.1, Value.int IntKind.i64 x.1.2] 69); have hB4 := HB.out.grown hg4 HB.out.size (fun k hk => by cases hk; omega); obtain ⟨tb, hlk, htb⟩ := lookT (hH4.below hbw4 hH4.lt) x.1.2 x.2.2; have HRg5 := Lib.hid (hrg4.below hbw4); have HO5 := Lib.hid (own_below hO4 hbw4); have HH5 := Lib.hid (hH4.below hbw4 hH4.lt); have HB5 := Lib.hid (hB4.trans (hbw4.mono hB4.size)); have Htb := Lib.hid htb; have Hl4 := Lib.hid hleft4; have Hf4 := Lib.hid hf4; clear hrg4 hg4 hen4 hleft4 hf4 hok4 hO4 hH4 hbw4 hB4 htb HO HH HB HRg; rcases tb with _ | _))
          · have hnT : ¬ T x.1.2 := fun h => by have := Htb.out.2 h; cases this
            refine ⟨⟨_, cnt4, M, HRg5, HO5, fun y => ?_, by omega, HH5, HB5, by rw [size_new]; omega⟩, ?_⟩
            · rw [HMm.out y, oneT_not hnT y]
            · rw [HRg5.out.left_eq, hms.out]
              exact hlt4
          · have hTx : T x.1.2 := Htb.out.1 rfl
            have hSx : S x.1 := by
              have h := Hf4.out
              unfold inF at h
              by_cases hS : S x.1
              · exact hS
              · rw [if_neg hS] at h
                cases h
            have hOn := HRg5.out.own_ne HO5.out
            have HRg7 := Lib.hid (HRg5.out.kept HG7.out hOn.2.2 hOn.2.1)
            have hhb : some hb ≠ u8.ownBlock := by
              rcases own_map_ne HO5.out HH5.out with h | h
              · rw [h]; simp
              · exact Ne.symm h
            have HH7 := Lib.hid (HH5.out.kept HG7.out hhb)
            have HB7 := Lib.hid (HB5.out.grown HG7.out HB5.out.size (fun k hk => by have := (own_lt HO5.out k hk).1; omega))
            have hO7 : RgsAt w7 bb v9' (rs ++ (M ++ [⟨x.1.1, x.1.1⟩])) := by
              have h := HO7.out
              unfold RgsAt
              rw [← List.append_assoc, List.flatMap_append, List.length_append]
              exact h
            refine ⟨⟨_, cnt4, M ++ [⟨x.1.1, x.1.1⟩], HRg7, Lib.hid hO7, fun y => ?_, by rw [List.length_append, List.length_singleton]; omega, HH7, HB7, by have := HG7.out.size; rw [size_new] at this; omega⟩, ?_⟩
            · rw [oneT_has hSx hTx y, ← HMm.out y]
              simp
            · rw [HRg7.out.left_eq, hms.out]
              exact hlt4
    · have hrlt := HRg.out.lt
      have hhlt := HH.out.lt
      have hne1 : mb ≠ hb := by omega
      go_wp2_with (at_next; refine wp_nextF _ rfl (.tmp 18) rfl kPair mb (hb + 1) n _ _ _ rfl HRg.out (fun h => absurd h h0) ?_; intro x v4 w4 cnt4 hok4 hleft4 hf4 hrg4 hlt4 hg4 hs4 hen4; have hen5 : (Instr.entry (.pointer (some ⟨hb + 1, 0, none⟩))).run Tryd.prog w4 = .ok (.tuple #[.agg #[.int .i64 x.1.1, .int .i64 x.1.2], v4]) w4 := hen4; have HRg4 := Lib.hid hrg4; have HG4 := Lib.hid hg4; have Hl4 := Lib.hid hleft4; have Hf4 := Lib.hid hf4; clear hrg4 hg4 hen4 hleft4 hf4 hok4)
      have HSx : Hid (S x.1) := by
        have h := Hf4.out
        unfold inF at h
        by_cases hS : S x.1
        · exact hS
        · rw [if_neg hS] at h
          cases h
      have hbw := alloc_below w4 (Obj.cells #[Value.int IntKind.i64 x.1.1, Value.int IntKind.i64 x.1.2] 69)
      have HB4 := Lib.hid (HB.out.grown HG4.out HB.out.size (fun k hk => by cases hk; omega))
      have hH4 : MapF w4 kInt hb n1 (hitF (hitT S rs left)) := HH.out.kept HG4.out (by simp)
      have hM4 : MapF w4 kPair mb n (inF S) := HMp.out.kept HG4.out (by simp; omega)
      refine (has_walk _ _ rs x.1.1 ((HL.out.below HB4.out).below hbw)).mono ?_
      rintro e w5 ⟨rfl, hb5⟩
      have hb45 := hbw.trans (hb5.mono hbw.size)
      have HRg5 := Lib.hid (HRg4.out.below hb45)
      have HH5 := Lib.hid (hH4.below hb45 hH4.lt)
      have HM5 := Lib.hid (hM4.below hb45 hM4.lt)
      have HB5 := Lib.hid (HB4.out.trans (hb45.mono HB4.out.size))
      have cp : w5.cell? ⟨wr.heap.size, 1, none⟩ = some (.int .i64 x.1.2) := by rw [← hs4]; exact cell_later hb5 ((cells_of_row (row_new w4 _)).1 1)
      have hms : Hid (wr.rangeLeft mb (hb + 1) = cnt) := HRg.out.left_eq
      have hcm : n1 < maxLen := by unfold maxLen; omega
      clear hb45 hb5 hbw hH4 hM4 HB4 HRg4 HG4 HB HH HMp HRg Hf4 hen5
      cases hh : hasB rs x.1.1 with
      | true =>
        have HT' := Lib.hid (hitT_has (S := S) (rs := rs) (left := left) (x := x) HSx.out Hl4.out hh)
        clear hh
        go_wp2_with (at_mapUpdate; refine wp_mapUpdateF w5 rfl _ _ _ 67 rfl kInt Tryd.underlying67 hb n1 _ rfl HH5.out hcm x.1.2 (.bool true) rfl rfl x.2.2 ?_; intro w6 hm6 hg6; have HH6 := Lib.hid hm6; have HRg6 := Lib.hid (HRg5.out.kept hg6 (by simpa using hne1) (by simp)); have HM6 := Lib.hid (HM5.out.kept hg6 (by simpa using hne1)); have HB6 := Lib.hid (HB5.out.grown hg6 HB5.out.size (fun k hk => by cases hk; omega)); clear hm6 hg6)
        go_roundw
        case rel =>
          refine ⟨_, _, _, _, _, _, _, _, _, _, _, _, ?_, rfl⟩
          refine ⟨_, cnt4, n1 + 1, HRg6, ?_, by omega, HB6, HM6⟩
          have h := HH6.out
          rw [hitF_set, ← HT'.out] at h
          exact h
        case measure => rw [HRg6.out.left_eq, hms.out]; exact hlt4
      | false =>
        have HT' := Lib.hid (hitT_not (S := S) (rs := rs) (left := left) (x := x) hh)
        clear hh
        go_wp2_with fail
        go_roundw
        case rel =>
          refine ⟨_, cnt4, n1, HRg5, ?_, by omega, HB5, HM5⟩
          show MapF _ _ _ _ _
          rw [HT'.out]
          exact HH5.out
        case measure => rw [HRg5.out.left_eq, hms.out]; exact hlt4
end Go.Proofs.YtmdkjljcnegmeaaDoor
