/- decomp.listed, Members, Singles; rubricatorref07.some, Members, Singles. -/
import Derived.Test.YtpmbebofinlmmaaGreatDoorDecB
import Derived.Test.YtpmbebofinlmmaaGreatDoorInts
import Derived.Test.YtpmbebofinlmmaaGreatDoorShelf4
import Derived.Test.YtpmbebofinlmmaaGreatDoorRefD
namespace Go.Proofs.YtpmbebofinlmmaaGreatDoor
open Go.RowKit Go.Sort
set_option linter.unusedVariables false
set_option linter.unusedSimpArgs false

/-! ### what is listed -/
def picksTo (Φ : Files) (P : List Int → Bool) (x : Rec) (q : Nat) : List Int := ((List.range' x.lo (q - x.lo)).filter fun r : Nat => P (dall (partsOf Φ.dec) (r : Int))).map fun r : Nat => (r : Int)
def picks (Φ : Files) (P : List Int → Bool) (rs : List Rec) : List Int := rs.flatMap fun x => picksTo Φ P x (x.hi + 1)
theorem picksTo_zero (Φ : Files) (P : List Int → Bool) (x : Rec) : picksTo Φ P x x.lo = [] := by unfold picksTo; rw [Nat.sub_self]; rfl
theorem picksTo_next (Φ : Files) (P : List Int → Bool) (x : Rec) (q : Nat) (h : x.lo ≤ q) : picksTo Φ P x (q + 1) = picksTo Φ P x q ++ (if P (dall (partsOf Φ.dec) (q : Int)) then [(q : Int)] else []) := by
  unfold picksTo
  rw [show q + 1 - x.lo = (q - x.lo) + 1 by omega, List.range'_1_concat, show x.lo + (q - x.lo) = q by omega, List.filter_append, List.map_append]
  congr 1
  by_cases hp : P (dall (partsOf Φ.dec) (q : Int)) = true
  · rw [if_pos hp, List.filter_cons_of_pos (by simpa using hp)]
    rfl
  · rw [if_neg hp, List.filter_cons_of_neg (by simpa using hp)]
    rfl
theorem picksTo_len (Φ : Files) (P : List Int → Bool) (x : Rec) (q : Nat) : (picksTo Φ P x q).length ≤ q - x.lo := by
  unfold picksTo
  rw [List.length_map]
  exact Nat.le_trans (List.length_filter_le _ _) (by rw [List.length_range']; exact Nat.le_refl _)
theorem picks_snoc (Φ : Files) (P : List Int → Bool) (rs : List Rec) (x : Rec) : picks Φ P (rs ++ [x]) = picks Φ P rs ++ picksTo Φ P x (x.hi + 1) := by
  unfold picks
  rw [List.flatMap_append]
  simp
theorem picks_mem {Φ : Files} {P : List Int → Bool} {rs : List Rec} {y : Int} (h : y ∈ picks Φ P rs) : ∃ x ∈ rs, ∃ r : Nat, y = (r : Int) ∧ x.lo ≤ r ∧ r ≤ x.hi ∧ P (dall (partsOf Φ.dec) (r : Int)) = true := by
  unfold picks at h
  obtain ⟨x, hx, h⟩ := List.mem_flatMap.1 h
  unfold picksTo at h
  obtain ⟨r, hr, rfl⟩ := List.mem_map.1 h
  obtain ⟨h1, h2⟩ := List.mem_filter.1 hr
  have h3 := List.mem_range'_1.1 h1
  exact ⟨x, hx, r, rfl, h3.1, by omega, h2⟩
theorem picks_of {Φ : Files} {P : List Int → Bool} {rs : List Rec} {x : Rec} (hx : x ∈ rs) (r : Nat) (h1 : x.lo ≤ r) (h2 : r ≤ x.hi) (h3 : P (dall (partsOf Φ.dec) (r : Int)) = true) : (r : Int) ∈ picks Φ P rs := by
  unfold picks
  refine List.mem_flatMap.2 ⟨x, hx, ?_⟩
  unfold picksTo
  exact List.mem_map.2 ⟨r, List.mem_filter.2 ⟨List.mem_range'_1.2 ⟨h1, by omega⟩, h3⟩, rfl⟩
theorem picks_sorted (Φ : Files) (P : List Int → Bool) : ∀ (rs : List Rec) (n : Nat), apartB n rs = true → (∀ x ∈ rs, x.lo ≤ x.hi) → (picks Φ P rs).Pairwise (fun a b => a ≤ b)
  | [], _, _, _ => List.Pairwise.nil
  | x :: rs, n, h, hl => by
    have h' := h
    unfold apartB at h'
    rw [Bool.and_eq_true, Nat.ble_eq] at h'
    have ih := picks_sorted Φ P rs (x.hi + 1) h'.2 (fun y hy => hl y (List.mem_cons_of_mem _ hy))
    have hge := apart_ge rs (x.hi + 1) h'.2 (fun y hy => hl y (List.mem_cons_of_mem _ hy))
    have e : picks Φ P (x :: rs) = picksTo Φ P x (x.hi + 1) ++ picks Φ P rs := by unfold picks; rw [List.flatMap_cons]
    rw [e]
    refine List.pairwise_append.2 ⟨?_, ih, ?_⟩
    · unfold picksTo
      rw [List.pairwise_map]
      refine List.Pairwise.imp (fun h => ?_) (List.Pairwise.filter _ (List.pairwise_lt_range' (s := x.lo) (n := x.hi + 1 - x.lo)))
      omega
    · intro a ha b hb
      unfold picksTo at ha
      obtain ⟨r, hr, rfl⟩ := List.mem_map.1 ha
      have h3 := List.mem_range'_1.1 (List.mem_filter.1 hr).1
      obtain ⟨y, hy, q, rfl, h4, _, _⟩ := picks_mem hb
      have := hge y hy
      omega
theorem picks_congr {Φ : Files} {P P' : List Int → Bool} (h : ∀ r : Nat, P (dall (partsOf Φ.dec) (r : Int)) = P' (dall (partsOf Φ.dec) (r : Int))) (rs : List Rec) : picks Φ P rs = picks Φ P' rs := by
  unfold picks picksTo
  simp only [h]

/-! ### sorting what is sorted -/
theorem below_grow (w : World) (n : Nat) (os : Array Obj) : Below w.heap.size w (grow (Sort.ahead w n) os) :=
  ⟨rfl, rfl, rfl, by show w.heap.size ≤ (w.heap ++ os).size; rw [Array.size_append]; omega, fun k hk => by show (w.heap ++ os)[k]? = _; rw [Array.getElem?_append_left hk]⟩
theorem holds_ints {w : World} {B g c : Nat} {l : List Int} (h : IntsAt w B (.slice (some ⟨g, 0, none⟩) l.length c) l) : Holds (Value.int .i64) w g 0 l.toArray := by
  have h' : w.ownsRow B 3 1 (.slice (some ⟨g, 0, none⟩) l.length c) l.length (l.toArray.toList.flatMap intEnc) := by rw [← intz_flat]; exact h
  have hH := own_holds intEnc_len (d := l.toArray) h' (by simp)
  intro j hj
  have := hH j (by simpa using hj)
  have e := Sort.get_flatK intEnc 1 l.toArray j (by simpa using hj)
  rw [e, Nat.div_one, Nat.mod_one] at this
  exact this
theorem sort_stay {w : World} {B : Nat} {v : Value} {l : List Int} (h : IntsAt w B v l) (hs : l.Pairwise (fun a b => a ≤ b)) (hsz : l.length < 4611686018427387904) : Calls Tryz.prog 122 #[v] w fun e w' => e = .returned (.tuple #[]) ∧ Below w.heap.size w w' := by
  rcases h.2 with ⟨rfl, h0⟩ | ⟨g, cap, cur, rfl, _⟩
  · refine (Tryz.slices_Sort_int_none none 0 w).mono ?_
    rintro e w' ⟨rfl, rfl⟩
    exact ⟨rfl, Below.refl _ _⟩
  · have hH := holds_ints h
    have hlen := own_len h
    have hg := (own_lt h g rfl).2
    unfold maxLen at hlen
    refine Calls.mono (Tryz.slices_Sort_int g 0 cap l w hH hg hsz) ?_
    rintro e w' ⟨rfl, n, os, rfl⟩
    have hm : (l.mergeSort fun x y => decide (x ≤ y)) = l := List.mergeSort_of_pairwise (List.Pairwise.imp (fun h => by simpa using h) hs)
    rw [hm, putRow_self _ _ g 0 l.toArray (by exact hH)]
    exact ⟨rfl, below_grow w n os⟩

/-! ### the walks -/
theorem blk_ne7 {w : World} {xb : Nat} {e e' : TypeId} {cs : Array Value} {B s n : Nat} {v : Value} {xs : List Value} (hX : Blk w xb e cs) (ho : w.ownsRow B e' s v n xs) (hne : e ≠ e') : some xb ≠ v.ownBlock := by
  rcases ho.2 with ⟨rfl, _⟩ | ⟨g, cap, cur, rfl, hb, hg, _⟩
  · intro h; cases h
  · intro h
    have h : xb = g := by simpa [Value.ownBlock] using h
    subst h
    unfold Blk at hX
    rw [hg] at hX
    injection hX with hX
    injection hX with h1 h2
    exact hne h2.symm
theorem recs_keep {w w' : World} {B b n : Nat} {v u : Value} {rs : List Rec} {fv : List Value} {xs : List Value} (h : RecsAt w B v rs fv) (hg : w.grownBy w' u.ownBlock) (ho : w.ownsRow b 3 1 u n xs) : RecsAt w' B v rs fv :=
  ⟨h.len, World.ownsRow.kept h.row hg (own_types h.row ho (by decide)), fun i r x h1 h2 => World.ownsRow.kept (h.fld i r x h1 h2) hg (own_types (h.fld i r x h1 h2) ho (by decide))⟩
def manyB (l : List Int) : Bool := decide (1 < l.length)
def oneB7 (l : List Int) : Bool := decide (l.length = 1)
theorem members1_walk (w : World) (B : Nat) (v : Value) (l : List Int) (h : IntsAt w B v l) : Calls Tryz.prog 83 #[v] w fun e w' => e = .returned (.bool (manyB l)) ∧ w = w' := by
  obtain ⟨A, c, rfl⟩ := own_slice h
  unfold manyB
  clear h
  by_cases h1 : 1 < l.length
  · have d1 : decide (((l.length : Nat) : Int) > 1) = true := by rw [decide_eq_true_eq]; omega
    rw [decide_eq_true h1]
    clear h1
    go_enter Tryz.func83, Tryz.ntmps83
    go_wp2_with fail
    go_ret
    exact ⟨rfl, rfl⟩
  · have d1 : decide (((l.length : Nat) : Int) > 1) = false := by rw [decide_eq_false_iff_not]; omega
    rw [decide_eq_false h1]
    clear h1
    go_enter Tryz.func83, Tryz.ntmps83
    go_wp2_with fail
    go_ret
    exact ⟨rfl, rfl⟩
theorem singles1_walk (w : World) (B : Nat) (v : Value) (l : List Int) (h : IntsAt w B v l) : Calls Tryz.prog 84 #[v] w fun e w' => e = .returned (.bool (oneB7 l)) ∧ w = w' := by
  obtain ⟨A, c, rfl⟩ := own_slice h
  unfold oneB7
  clear h
  by_cases h1 : l.length = 1
  · have d1 : (((l.length : Nat) : Int) == 1) = true := by rw [beq_iff_eq]; omega
    rw [decide_eq_true h1]
    clear h1
    go_enter Tryz.func84, Tryz.ntmps84
    go_wp2_with fail
    go_ret
    exact ⟨rfl, rfl⟩
  · have d1 : (((l.length : Nat) : Int) == 1) = false := by rw [beq_eq_false_iff_ne]; omega
    rw [decide_eq_false h1]
    clear h1
    go_enter Tryz.func84, Tryz.ntmps84
    go_wp2_with fail
    go_ret
    exact ⟨rfl, rfl⟩
theorem slInt7 : SlT Tryz.prog 42 3 1 8 := ⟨Tryz.underlying42, by kernel_rfl, by decide, by decide⟩
theorem intz_snoc7 (l : List Int) (x : Int) : intz l ++ [.int .i64 x] = intz (l ++ [x]) := by
  unfold intz
  rw [List.map_append]
  rfl
set_option maxRecDepth 100000 in
set_option maxHeartbeats 3200000 in
theorem listed_walk {w : World} {m : Nat} {Φ : Files} (hok : FilesOk Φ) (htx : TextsOk Φ) (hap : apartB 0 Φ.dec = true) (hFull : ∀ W, Below w.heap.size w W → ∀ r, (Lit.int .i64 r).wf = true → Calls Tryz.prog 30 #[.pointer (some ⟨m + 3, 0, none⟩), .int .i64 r] W (CloneSaid (dall (partsOf Φ.dec) r) W))
    (g : FuncId) (P : List Int → Bool) (hg : ∀ (args : Array Value) (W : World), (callFunc g args).run Tryz.prog W = .ok (.enter g args) W) (hw : ∀ (W : World) (B : Nat) (v : Value) (l : List Int), IntsAt W B v l → Calls Tryz.prog g #[v] W fun e w' => e = .returned (.bool (P l)) ∧ W = w') (hE : Env w) :
    Calls Tryz.prog 82 #[.pointer (some ⟨m + 3, 0, none⟩), .func (.func g) #[] #[]] w (CloneSaid (picks Φ P Φ.dec) w) := by
  obtain ⟨t, ht1, ht2⟩ := htx.dec
  have HP := Lib.hid (ht2 w hE)
  have HT := Lib.hid ht1
  have HW := Lib.hid hw
  have HF := Lib.hid hFull
  have Hok := Lib.hid hok
  have HSo := Lib.hid (picks_sorted Φ P Φ.dec 0 hap (dec_le hok))
  have hdl := hok.decl.le
  clear ht1 ht2 hE hw hFull hok htx hap
  go_enter Tryz.func82, Tryz.ntmps82
  go_wp2_with fail
  refine (HT.out w).mono ?_
  rintro e w ⟨rfl, rfl⟩
  go_wp2_with fail
  refine HP.out.mono ?_
  rintro e w1 ⟨vl, fv, rfl, hR, hb1⟩
  obtain ⟨A0, c0, rfl⟩ := own_slice hR.row
  have HR := Lib.hid hR
  have HB1 := Lib.hid hb1
  clear hR hb1 HP HT
  go_wp2_with fail
  go_loopw [5, 20] (fun o i wr => ∃ (k : Nat) (out : List Int), k ≤ Φ.dec.length ∧ i = .int .i64 k ∧ Hid (out = picks Φ P (Φ.dec.take k)) ∧ out.length ≤ 1114112 * k ∧ Hid (IntsAt wr w.heap.size o out) ∧ Hid (RecsAt wr w.heap.size (.slice A0 Φ.dec.length c0) Φ.dec fv) ∧ Hid (Below w.heap.size w wr)) (fun _ i _ => Φ.dec.length - (intOf i).toNat)
  case atStart => exact ⟨0, [], by omega, rfl, rfl, by simp, World.ownsRow_nil _ _ _ _, HR, HB1⟩
  case round =>
    clear HR HB1
    obtain ⟨k, out, hk, rfl, HO, hol, HU, HR, HB⟩ := hrel
    by_cases hlt : k < Φ.dec.length
    · obtain ⟨g0, cap0, hv, _, _, _, _⟩ := own_form HR.out.row (by omega)
      injection hv with hA hn0 hc0
      subst hA hc0
      clear hn0
      obtain ⟨u, hu⟩ : ∃ u, u = fv[k]'(by rw [← HR.out.len]; exact hlt) := ⟨_, rfl⟩
      obtain ⟨x, hx⟩ : ∃ x, x = Φ.dec[k] := ⟨_, rfl⟩
      obtain ⟨e0, e1, e2⟩ := recCells_get Φ.dec fv k HR.out.len hlt
      rw [← hx] at e0 e1
      rw [← hu] at e2
      have q0 := own_cell HR.out.row _ _ e0
      have q1 := own_cell HR.out.row _ _ e1
      have q2 := own_cell HR.out.row _ _ e2
      have hfld := HR.out.fld k x u (by rw [hx]; exact List.getElem?_eq_getElem hlt) (by rw [hu]; exact List.getElem?_eq_getElem _)
      obtain ⟨hx1, hx2, _⟩ := Hok.out.decl.ok x (by rw [hx]; exact List.getElem_mem _)
      have HSn := Lib.hid (show picks Φ P (Φ.dec.take (k + 1)) = out ++ picksTo Φ P x (x.hi + 1) by rw [List.take_succ_eq_append_getElem hlt, ← hx, picks_snoc, HO.out])
      obtain ⟨Au, cu, rfl⟩ := own_slice hfld
      obtain ⟨X, hX⟩ : ∃ X, X = Obj.cells #[Value.int IntKind.i64 x.lo, Value.int IntKind.i64 x.hi, Value.slice Au x.fields.length cu] 81 := ⟨_, rfl⟩
      have hbx := alloc_below wr X
      have HX7 := Lib.hid (show Blk (wr.alloc X) wr.heap.size 81 #[Value.int IntKind.i64 x.lo, Value.int IntKind.i64 x.hi, Value.slice Au x.fields.length cu] by rw [hX]; exact row_new _ _)
      have HU0 := Lib.hid (show IntsAt (wr.alloc X) w.heap.size u5 out from own_below HU.out hbx)
      have HR0 := Lib.hid (HR.out.below hbx)
      have HB0 := Lib.hid (HB.out.trans (hbx.mono HB.out.size))
      rw [hX] at HX7 HU0 HR0 HB0
      clear hu hx e0 e1 e2 hfld hX hbx HU HR HB HO X
      go_upto_region 6 with fail
      clear q0 q1 q2
      generalize wr.alloc _ = W1 at *
      generalize wr.heap.size = xb at *
      have q0 := HX7.out.cell 0
      go_wp2_with fail
      clear q0
      go_loopw [5, 11] (fun o r wx => ∃ (q : Nat) (os : List Int), r = .int .i64 q ∧ x.lo ≤ q ∧ q ≤ x.hi + 1 ∧ Hid (os = out ++ picksTo Φ P x q) ∧ os.length ≤ 1114112 * k + (q - x.lo) ∧ Hid (IntsAt wx w.heap.size o os) ∧ Hid (Blk wx xb 81 #[Value.int IntKind.i64 x.lo, Value.int IntKind.i64 x.hi, Value.slice Au x.fields.length cu]) ∧ Hid (RecsAt wx w.heap.size (.slice (some ⟨g0, 0, none⟩) Φ.dec.length c0) Φ.dec fv) ∧ Hid (Below w.heap.size w wx)) (fun _ r _ => x.hi + 1 - (intOf r).toNat)
      case atStart => exact ⟨x.lo, out, rfl, Nat.le_refl _, by omega, (show out = out ++ _ by rw [picksTo_zero, List.append_nil]), by omega, HU0, HX7, HR0, HB0⟩
      case round =>
        clear HU0 HX7 HR0 HB0
        obtain ⟨q, os, rfl, hq1, hq2, HO, hol2, HU, HX7, HR, HB⟩ := hrel
        have q1 := HX7.out.cell 1
        by_cases hle : q ≤ x.hi
        · have d1 : decide ((q : Int) ≤ (x.hi : Int)) = true := by rw [decide_eq_true_eq]; omega
          have b1 : IntKind.i64.wrap ((q : Int) + 1) = ((q + 1 : Nat) : Int) := by rw [IntKind.wrap_i64]; omega
          have HFW := Lib.hid (HF.out wr HB.out (q : Int) (wf_i64 (by omega) (by omega)))
          have HB1 := Lib.hid b1
          clear b1
          go_wp2_with fail
          refine HFW.out.mono ?_
          rintro e w2 ⟨v2, rfl, hv2, hb2⟩
          have HU2 := Lib.hid (own_below HU.out hb2)
          have HX2 := Lib.hid (HX7.out.below hb2)
          have HR2 := Lib.hid (HR.out.below hb2)
          have HB2 := Lib.hid (HB.out.trans (hb2.mono HB.out.size))
          have HWW := Lib.hid (HW.out w2 _ v2 _ hv2)
          clear hv2 hb2 HFW HU HX7 HR HB
          go_wp2_with fail
          refine HWW.out.mono ?_
          rintro e w3 ⟨rfl, rfl⟩
          have hnx := picksTo_next Φ P x q hq1
          cases hP : P (dall (partsOf Φ.dec) (q : Int)) with
          | true =>
            rw [hP, if_pos rfl] at hnx
            have HN := Lib.hid (show os ++ [(q : Int)] = out ++ picksTo Φ P x (q + 1) by rw [hnx, HO.out, List.append_assoc])
            have hob : (os.length + 1) * 8 ≤ 140737488355328 := by omega
            clear HWW hnx hP HO
            have b1 := HB1.out
            go_wp2_with (at_builtin; refine wp_append_lit slInt7 rfl (.tmp 37) (.tmp 39) rfl w.heap.size u5 os.length (intz os) rfl (by exact HU2.out) #[.int .i64 (q : Int)] rfl rfl (by simp [Value.oneCell']) hob (by exact HB2.out.size) ?_; intro v6 w6 hown6 hg6; have HX6 := Lib.hid (HX2.out.grown hg6 (blk_ne7 HX2.out HU2.out (by decide))); have HR6 := Lib.hid (recs_keep HR2.out hg6 HU2.out); have HU6 := Lib.hid hown6; have HB6 := Lib.hid (HB2.out.grown hg6 HB2.out.size (fun k hk => (own_lt HU2.out k hk).1)); clear hown6 hg6)
            go_roundw
            case rel => clear b1; exact ⟨q + 1, os ++ [(q : Int)], by first | rfl | go_num, by omega, by omega, HN, by rw [List.length_append, List.length_singleton]; omega, (show IntsAt _ _ _ _ by unfold IntsAt; rw [List.length_append, ← intz_snoc7]; exact HU6.out), HX6, HR6, HB6⟩
            case measure => clear b1; simp [intOf]; omega
          | false =>
            rw [hP, if_neg (by decide), List.append_nil] at hnx
            have HN := Lib.hid (show os = out ++ picksTo Φ P x (q + 1) by rw [hnx]; exact HO.out)
            clear HWW hnx hP HO
            have b1 := HB1.out
            go_wp2_with fail
            go_roundw
            case rel => clear b1; exact ⟨q + 1, os, by first | rfl | go_num, by omega, by omega, HN, by omega, HU2, HX2, HR2, HB2⟩
            case measure => clear b1; simp [intOf]; omega
        · have d1 : decide ((q : Int) ≤ (x.hi : Int)) = false := by rw [decide_eq_false_iff_not]; omega
          have hqe : q = x.hi + 1 := by omega
          have HN := Lib.hid (show os = picks Φ P (Φ.dec.take (k + 1)) by rw [HSn.out, HO.out, hqe])
          clear HO HX7
          go_wp2_with fail
          go_roundw
          case rel => exact ⟨k + 1, os, by omega, by go_num, HN, by omega, HU, HR, HB⟩
          case measure => simp [intOf]; omega
    · have hke : k = Φ.dec.length := by omega
      have hout : out = picks Φ P Φ.dec := by rw [HO.out, hke, List.take_length]
      subst hout
      have HSt := Lib.hid (sort_stay HU.out HSo.out (by omega))
      clear HR HO
      go_wp2_with fail
      refine HSt.out.mono ?_
      rintro e w9 ⟨rfl, hb9⟩
      have HU9 := Lib.hid (own_below HU.out hb9)
      have HB9 := Lib.hid (HB.out.trans (hb9.mono HB.out.size))
      clear hb9 HSt HU HB
      go_wp2_with fail
      go_ret
      exact ⟨_, rfl, HU9.out, HB9.out⟩

theorem members_walk {w : World} {m : Nat} (ht : TabAt w m files) (hH : Hang w) (hE : Env w) : Calls Tryz.prog 25 #[.pointer (some ⟨m + 3, 0, none⟩)] w (CloneSaid (picks files manyB files.dec) w) := by
  have HL := Lib.hid (listed_walk (m := m) files_ok texts_ok files_apart (fun W hb r hr => decf_walk (ht.below hb) (hH.below hb) r hr) 83 manyB (fun args W => by simp [go_sem]) members1_walk hE)
  generalize files = Φ at *
  clear ht hH hE
  go_enter Tryz.func25, Tryz.ntmps25
  go_wp2_with fail
  refine HL.out.mono ?_
  rintro e w1 ⟨v, rfl, hv, hb⟩
  obtain ⟨A, c, rfl⟩ := own_slice hv
  clear HL
  have Hv := Lib.hid hv
  clear hv
  go_wp2_with fail
  go_ret
  exact ⟨_, rfl, Hv.out, hb⟩
theorem singles_walk {w : World} {m : Nat} (ht : TabAt w m files) (hH : Hang w) (hE : Env w) : Calls Tryz.prog 26 #[.pointer (some ⟨m + 3, 0, none⟩)] w (CloneSaid (picks files oneB7 files.dec) w) := by
  have HL := Lib.hid (listed_walk (m := m) files_ok texts_ok files_apart (fun W hb r hr => decf_walk (ht.below hb) (hH.below hb) r hr) 84 oneB7 (fun args W => by simp [go_sem]) singles1_walk hE)
  generalize files = Φ at *
  clear ht hH hE
  go_enter Tryz.func26, Tryz.ntmps26
  go_wp2_with fail
  refine HL.out.mono ?_
  rintro e w1 ⟨v, rfl, hv, hb⟩
  obtain ⟨A, c, rfl⟩ := own_slice hv
  clear HL
  have Hv := Lib.hid hv
  clear hv
  go_wp2_with fail
  go_ret
  exact ⟨_, rfl, Hv.out, hb⟩
end Go.Proofs.YtpmbebofinlmmaaGreatDoor
